/- Texts put together: Ne Xr Cp Nf Ng Nh Ni Nc Nd Nj Nk Nl Gt Nm Nn No Np Ar Nu Nv Qa Qb Qc Rp Ma Ya Yb Yc Yd. Conditions: none. -/
import Derived.Test.YtpabbhpgikdhfaaGreatWPb
set_option linter.unusedSimpArgs false
set_option linter.unusedVariables false
namespace Go.Art
open Go Go.Proofs Go.RowKit
abbrev TN:TypeId:=31
abbrev T64:TypeId:=145
theorem Addr_add0 (a:Addr):a.add 0 = a:=by unfold Addr.add;simp
theorem slSub_all {w:World} {v:Value} {xs:List Value} (h:Sl w v xs):slSub v 0 xs.length = v:=by
 obtain ⟨a,c,rfl,_⟩:=h
 simp only [slSub,Nat.sub_zero]
 cases a with
 | none=>simp
 | some a=>simp [Addr_add0]
theorem slSub_sub (v:Value) (m k:Nat):slSub (slSub v 0 m) 0 k = slSub v 0 k:=by
 cases v with
 | slice a l c=>
  simp only [slSub,Nat.sub_zero]
  cases a with
  | none=>simp
  | some a=>simp [Addr_add0]
 | _=>rfl
theorem has_subu {F:List Ch} {v:Value} {l:List Nat} (h:Has F (vw v (Us l))) {lo hi:Nat} (h1:lo ≤ hi) (h2:hi ≤ l.length):Has F (vw (slSub v lo hi) (Us ((l.take hi).drop lo))):=by
 rw [← Us_sub];exact has_sub h h1 (by simpa using h2)
theorem has_take {F:List Ch} {v:Value} {l:List Nat} (h:Has F (vw v (Us l))) {k:Nat} (h2:k ≤ l.length):Has F (vw (slSub v 0 k) (Us (l.take k))):=has_subu h (Nat.zero_le _) h2
theorem has_drop {F:List Ch} {v:Value} {l:List Nat} (h:Has F (vw v (Us l))) {k:Nat} (h2:k ≤ l.length):Has F (vw (slSub v k l.length) (Us (l.drop k))):=by
 have:=has_subu h h2 (Nat.le_refl _);rwa [List.take_length] at this
theorem im_take (e:TypeId) (v:Value) (l:List Nat) {k:Nat} (h2:k ≤ l.length):Im1 (own e v (Us l)) (own e (slSub v 0 k) (Us (l.take k))):=by
 have:=im_sub e v (Us l) (lo:=0) (hi:=k) (Nat.zero_le _) (by simpa using h2)
 rwa [Us_sub] at this
theorem Has.mono {F G:List Ch} {c:Ch} (h:Has F c) (i:Im G F):Has G c:=⟨fun w hw=>h.P w (i.sat w hw),h.wr,h.rd,fun b hb=>i.ft b (h.ft b hb)⟩
attribute [local irreducible] Fit pt own ro vw mpc lpt vels rels mow lrc dfr
theorem trimmed_tr (v:Value) (l:List Nat):Tr Tryz.prog 185 [v] [vw v (Us l)] [] fun u D=>(∃ k,k ≤ l.length∧u = slSub v 0 k∧nv (l.drop k) = 0∧Tm (l.take k))∧D = []:=by
 refine Tr.enter env _ Tryz.func185 (by kernel_rfl) rfl Tryz.ntmps185 rfl (by repeat (first | exact has00 | refine has01 ?_)) fun w0=>?_
 refine TC.fact (p:=slSub v 0 l.length = v) (fun w hw=>by have:=slSub_all (vw_sl (hw.h (vw v (Us l)) (List.Mem.head _)));rwa [Us_len] at this) fun hv=>?_
 refine TC.lenu (v:=v) (l:=l) fun hlen=>?_
 repeat' first|(refine wo ?_;first|refine oa ?_)|refine sq ?_|refine rg ?_|refine xc ?_|refine nl ?_|refine bk ?_
 refine TC.loop (ι:=Nat × Value) (fun i=>[(0,i.2)]) (fun _=>[]) (fun i=>i.1 ≤ l.length∧i.2 = slSub v 0 i.1∧nv (l.drop i.1) = 0) (fun i=>i.1) (l.length,v) [] ⟨Nat.le_refl _,hv.symm,by simp [nv]⟩ ?_
 rintro ⟨k,u⟩ ⟨h1,h2,h3⟩
 dsimp only at h1 h2 h3 ⊢
 obtain ⟨m,hm⟩ : ∃ m,m = l.take k:=⟨_,rfl⟩
 have hu:Has [vw v (Us l)] (vw u (Us m)):=by rw [h2,hm];exact has_take (has_vw (List.Mem.head _)) h1
 have hkl:m.length = k:=by rw [hm];simp;omega
 have hge:((m.length:Int) - 1).toNat = k - 1:=by omega
 have hT:m.length = 0∨m.getD (((m.length:Int) - 1).toNat) 0 ≠ 0→Tm (l.take k):=fun h=>by
  rw [← hm];refine Tm_of (h.imp List.eq_nil_of_length_eq_zero fun h=>?_)
  rwa [hge,← hkl] at h
 have hZ:0 < k→m.getD (((m.length:Int) - 1).toNat) 0 = 0→nv (l.drop (k - 1)) = 0:=fun h0 h=>by
  have:=nv_step l (k - 1)
  rw [show k - 1 + 1 = k by omega,h3,Nat.mul_zero,Nat.add_zero] at this
  refine this.trans (Eq.trans ?_ h)
  rw [hge,hm,List.getD_eq_getElem?_getD,List.getD_eq_getElem?_getD,List.getElem?_take,if_pos (by omega)]
 have hN:∀ m,slSub u 0 m = slSub v 0 m:=fun m=>by rw [h2,slSub_sub]
 refine TC.im (B:=[vw v (Us l)]) (Im.refl _) ?_
 repeat' first|(refine wo ?_;first|(refine ao ?_;first|refine aw ?_|refine oa ?_)|refine lu ?_|refine oa ?_|refine lnm ?_|refine ixm ?_|refine schm ?_|refine gy ?_|refine gn ?_|(refine gsi (fun hB=>?_) (fun hB=>?_) <;> try (exfalso;omega)))|(refine gc ?_;first|refine cf ?_|(refine ci (fun hB=>?_) (fun hB=>?_) <;> try (exfalso;omega)))|refine sq ?_|refine rg ?_|refine xc ?_|refine nl ?_|refine sk ?_|refine bk ?_|refine xe ?_|refine rt ?_|refine xb ?_
 ·exact lp (k - 1,slSub u 0 ((m.length:Int) - 1).toNat) ⟨by dsimp only;omega,by dsimp only;rw [hN,hge],hZ (by omega) (by omega)⟩
 ·exact r1 ⟨⟨k,h1,h2,h3,hT (.inr (by omega))⟩,rfl⟩
 ·exact r1 ⟨⟨k,h1,h2,h3,hT (.inl (by omega))⟩,rfl⟩
theorem digit_tr (v:Value) (l:List Nat) (i:Int) (hi:0 ≤ i):Tr Tryz.prog 251 [v,I i] [vw v (Us l)] [] fun u D=>u = Un (l.getD i.toNat 0)∧D = []:=by
 have h0:¬ i < l.length→l.getD i.toNat 0 = 0:=fun h=>by rw [List.getD_eq_getElem?_getD,List.getElem?_eq_none (by omega)];rfl
 refine Tr.enter env _ Tryz.func251 (by kernel_rfl) rfl Tryz.ntmps251 rfl (by repeat (first | exact has00 | refine has01 ?_)) fun w0=>?_
 refine TC.lenu (v:=v) (l:=l) fun hlen=>?_
 repeat' first|(refine wo ?_;first|(refine ao ?_;first|refine oa ?_)|refine lu ?_|refine oa ?_|refine lnm ?_|refine ixm ?_)|(refine gc ?_;first|(refine ci (fun hB=>?_) (fun hB=>?_) <;> try (exfalso;omega)))|refine sq ?_|refine rg ?_|refine xc ?_|refine nl ?_|refine sk ?_|refine rt ?_
 ·exact r1 ⟨rfl,rfl⟩
 ·exact r1 ⟨by rw [h0 (by omega)],rfl⟩
theorem NClone_tr (v:Value) (l:List Nat) (hl:l.length ≤ 17592186044416):Tr Tryz.prog 187 [v] [vw v (Us l)] [] fun u D=>u.oneCell' = true∧D = [own T64 u (Us l)]:=by
 refine Tr.enter env _ Tryz.func187 (by kernel_rfl) rfl Tryz.ntmps187 rfl (by repeat (first | exact has00 | refine has01 ?_)) fun w0=>?_
 refine TC.slf (v:=v) (xs:=Us l) fun a c hv hn=>?_
 cases a with
 | none=>
  have hl0:l = []:=by have:=hn rfl;simpa using this
  subst hl0 hv
  repeat' first|(refine wo ?_;first|(refine ao ?_;first|refine isl ?_)|refine oa ?_)|(refine gc ?_;first|refine ct ?_)|refine sq ?_|refine rg ?_|refine xc ?_|refine nl ?_|refine rt ?_
  refine TX.im (own_nil T64 _) ?_
  exact r1 ⟨rfl,rfl⟩
 | some a=>
  subst hv
  repeat' first|(refine sl0 fun o=>?_)|(refine apu (l:=[]) (news:=l) (fun o=>?_);refine TO.one (v:=o) (xs:=Us ([] ++ l)) fun ho=>?_)|(refine wo ?_;first|(refine ao ?_;first|refine isl ?_)|refine oa ?_)|(refine gc ?_;first|refine cf ?_)|refine sq ?_|refine rg ?_|refine xc ?_|refine nl ?_|refine sk ?_|refine rt ?_
  exact r1 ⟨ho,rfl⟩
theorem NClip_tr (v:Value) (l:List Nat):Tr Tryz.prog 275 [v] [] [own T64 v (Us l)] fun u D=>u.oneCell' = true∧D = [own T64 u (Us l)]:=by
 have hl:=Us_len l
 refine Tr.enter env _ Tryz.func275 (by kernel_rfl) rfl Tryz.ntmps275 rfl (by repeat (first | exact has00 | refine has01 ?_)) fun w0=>?_
 repeat' first|(refine ln (xs:=Us l) ?_)|refine clpo (xs:=Us l) ?_|(refine wo ?_;first|refine oa ?_)|refine sq ?_|refine rg ?_|refine xc ?_|refine nl ?_|refine rt ?_
 refine TX.one (v:=clipV v (Us l).length) (xs:=Us l) fun ho=>?_
 exact r1 ⟨ho,rfl⟩
theorem Trim_tr (v:Value) (l:List Nat) (hd:Dg l) (hl:l.length ≤ 17592186044416):Tr Tryz.prog 132 [v] [vw v (Us l)] [] fun u D=>u.oneCell' = true∧D = [own T64 u (Us (dg (nv l)))]:=by
 refine Tr.enter env _ Tryz.func132 (by kernel_rfl) rfl Tryz.ntmps132 rfl (by repeat (first | exact has00 | refine has01 ?_)) fun w0=>?_
 repeat' first|(refine gca ?_;first|(refine ca (trimmed_tr v l) ?_;rintro _ _ ⟨⟨k,h1,rfl,h2,h3⟩,rfl⟩;have hk:dg (nv l) = l.take k:=(by rw [← dg_top hd h2,dg_nv (hd.take k) h3]);rw [hk];have hh:Has [vw v (Us l)] (vw (slSub v 0 k) (Us (l.take k))):=has_take (has_vw (List.Mem.head _)) h1;refine TO.im (B:=[vw v (Us l)]) (Im.refl _) ?_)|(refine ca (NClone_tr (slSub v 0 k) (l.take k) (by rw [List.length_take];omega)) ?_;rintro o _ ⟨ho,rfl⟩))|(refine wo ?_;first|refine oa ?_)|refine sq ?_|refine rg ?_|refine xc ?_|refine nl ?_|refine rt ?_
 exact r1 ⟨ho,rfl⟩
theorem Check_tr (v:Value) (l:List Nat):Tr Tryz.prog 153 [v] [vw v (Us l)] [] fun u D=>u = I (if 0 < l.length∧l.getD (l.length - 1) 0 = 0 then 6 else 0)∧D = []:=by
 have hge:((l.length:Int) - 1).toNat = l.length - 1:=by omega
 rw [← hge]
 refine Tr.enter env _ Tryz.func153 (by kernel_rfl) rfl Tryz.ntmps153 rfl (by repeat (first | exact has00 | refine has01 ?_)) fun w0=>?_
 refine TC.lenu (v:=v) (l:=l) fun hlen=>?_
 repeat' first|(refine wo ?_;first|(refine ao ?_;first|refine aw ?_|refine oa ?_)|refine lu ?_|refine oa ?_|refine lnm ?_|refine ixm ?_|refine gy ?_|refine gn ?_|(refine gsi (fun hB=>?_) (fun hB=>?_) <;> try (exfalso;omega)))|(refine gc ?_;first|refine cf ?_|(refine ci (fun hB=>?_) (fun hB=>?_) <;> try (exfalso;omega)))|refine sq ?_|refine rg ?_|refine xc ?_|refine nl ?_|refine sk ?_|refine rt ?_
 ·exact r1 ⟨by rw [if_pos (by omega)],rfl⟩
 ·exact r1 ⟨by rw [if_neg (by omega)],rfl⟩
 ·exact r1 ⟨by rw [if_neg (by omega)],rfl⟩
theorem Of_tr (x:Nat) (hx:x < 18446744073709551616):Tr Tryz.prog 129 [Un x] [] [] fun u D=>u.oneCell' = true∧D = [own T64 u (Us (dg x))]:=by
 have e:nv [x] = x:=by simp [nv]
 refine Tr.enter env _ Tryz.func129 (by kernel_rfl) rfl Tryz.ntmps129 rfl (by repeat (first | exact has00 | refine has01 ?_)) fun w0=>?_
 repeat' first|(refine gca ?_;first|(refine ca (Trim_tr o [x] (Dg.one hx) (by simp)) ?_;rw [e];rintro o2 _ ⟨ho2,rfl⟩))|(refine slu [x] fun o ho=>?_)|(refine wo ?_;first|refine oa ?_)|refine sq ?_|refine rg ?_|refine xc ?_|refine nl ?_|refine rt ?_
 exact r1 ⟨ho2,rfl⟩
end Go.Art
namespace Go.Art
open Go Go.Proofs Go.RowKit
def bxr (p q:Int):Int:=((BitVec.ofInt 8 p ^^^ BitVec.ofInt 8 q).toNat:Int)
structure Tl (a v:Value) (n k:Nat):Prop where
 le:k ≤ n
 blk:v.ownBlock = a.ownBlock
 ex:∃ o c,v = .slice o (n - k) c∧n - k ≤ c∧c ≤ maxLen∧(k < n→∃ o' c',a = .slice (some o') n c'∧o = some (o'.add k))
section
variable {P:Program} {E:Env P} {n:Sh} {X:Cx} {s:List K} {fr:Fr} {A A':List Ch} {ops:Array Oper} {rest:List Oper} {d:Nat} {ty t t' el:TypeId} {pos:String} {after:Array Edge} {z v u:Value} {x y:Operand} {b j k sz by_:Nat} {w:World} {p q:Int}
def lay (l:List Int) (k:Nat) (m:List Int):List Int:=l.take k ++ m ++ l.drop (k + m.length)
end
end Go.Art
namespace Go.Art
open Go Go.Proofs Go.RowKit
section
variable {P:Program} {E:Env P} {n:Sh} {X:Cx} {s:List K} {fr:Fr} {A A':List Ch} {ops:Array Oper} {rest:List Oper} {d:Nat} {ty t t':TypeId} {pos:String} {after:Array Edge} {x y:Operand} {v u z:Value} {by_:Nat} {xs:List Value} {w:World}
theorem R_copy0 {e:TypeId} {o o2:Option Addr} {m c c2:Nat} (ht:lk E.und t = some (.slice e)) (he:lk E.inf e = some (z,1,by_)) (hx:ev fr x = some (.slice o m c)) (hy:ev fr y = some (.slice o2 0 c2)) :
  OpV P n fr (.call ⟨.builtin .copy,#[x,y],#[t,t']⟩) ty w (I 0) w:=⟨fun a ha _ _ _ _=>by
 obtain ⟨inf,hi,_,hsz,_⟩:=E.info he
 have hl:∀ b:Addr,(loadCells b 0).run P w = .ok #[] w:=fun b=>run_loadCells_list (P:=P) w b [] (by intro j v h;cases h)
 simp only [execOp,resolve]
 simp only [List.map_toArray,List.map_cons,List.map_nil,ha.ev hx,ha.ev hy]
 cases o <;> cases o2 <;> simp [invoke,builtin,Builtin.copy_,run_underlying (P:=P) (E.un ht),Builtin.lenOf,Builtin.firstCells,sizeOf,typeInfo,hi,hsz,hl,storeCells,goInt]⟩
end
end Go.Art
namespace Go.Art
open Go Go.Proofs Go.RowKit
theorem zeroCells1 (z:Value) (q:Nat):Builtin.zeroCells #[z] q = (List.replicate q z).toArray:=by
 apply Array.ext'
 simp only [Builtin.zeroCells,List.size_toArray,List.length_singleton,Nat.mul_one,Nat.mod_one,Array.toList_map,Array.toList_range]
 rw [show (fun i:Nat=>(#[z]:Array Value)[0]!) = fun _=>z from rfl,List.map_const',List.length_range]
theorem own_write {w:World} {e:TypeId} {g o cap k:Nat} {cur:Array Value} {xs cs:List Value} (hb:w.heap[g]? = some (.cells cur e (0,0))) (h2:xs.length ≤ cap) (h3:cap ≤ maxLen) (h4:o + cap ≤ cur.size) (h5:(cur.toList.drop o).take xs.length = xs) (hk:k + cs.length ≤ xs.length) :
  OwnO (w.setRow g (cur.toList.take (o + k) ++ cs ++ cur.toList.drop (o + k + cs.length)).toArray) e (.slice (some ⟨g,o,none⟩) xs.length cap) (xs.take k ++ cs ++ xs.drop (k + cs.length)):=by
 have hl:(xs.take k ++ cs ++ xs.drop (k + cs.length)).length = xs.length:=by simp;omega
 refine .inr ⟨g,o,cap,_,by rw [hl],setRow_heap w g cur _ e _ hb,by rw [hl];exact h2,h3,by simp;omega,?_⟩
 rw [hl]
 have hx':xs = (cur.toList.drop o).take xs.length:=h5.symm
 have hcl:cur.toList.length = cur.size:=by simp
 refine List.ext_getElem? fun i=>?_
 have hgx:∀ m,m < xs.length→xs[m]? = cur.toList[o + m]?:=fun m hm=>by
  conv=>lhs;rw [hx']
  rw [List.getElem?_take,if_pos hm,List.getElem?_drop]
 by_cases hi':i < xs.length
 ·rw [List.getElem?_take,if_pos hi',List.getElem?_drop]
  simp only [List.getElem?_append,List.getElem?_take,List.getElem?_drop,List.length_append,List.length_take]
  rw [show min (o + k) cur.toList.length = o + k by omega,show min k xs.length = k by omega]
  by_cases c1:i < k
  ·rw [if_pos (by omega),if_pos (by omega),if_pos (by omega),if_pos (by omega),if_pos (by omega),if_pos c1,hgx i hi']
  ·by_cases c2:i < k + cs.length
   ·rw [if_pos (by omega),if_neg (by omega),if_pos (by omega),if_neg (by omega)]
    congr 1;omega
   ·rw [if_neg (by omega),if_neg (by omega),hgx _ (by omega)]
    congr 1;omega
 ·rw [List.getElem?_eq_none (by simp;omega),List.getElem?_eq_none (by simp;omega)]
section
variable {P:Program} {E:Env P} {n:Sh} {X:Cx} {s:List K} {fr:Fr} {A A':List Ch} {ops:Array Oper} {rest:List Oper} {d:Nat} {ty t t':TypeId} {pos:String} {after:Array Edge} {x y:Operand} {w:World} {v u z:Value} {by_ lo hi:Nat} {xs cs:List Value} {e:TypeId}
theorem apz {m:Int} {k1:IntKind} (k:∀ v',v'.oneCell' = true→(∃ b c,v' = .slice (some ⟨b,0,none⟩) m.toNat c∧m.toNat ≤ c)→TO E n X s ops rest ((d,v') :: fr) (own e v' (List.replicate m.toNat z) :: A)) (hx:ev fr x = some (.slice none 0 0):=by rfl) (hy:ev fr y = some (.int k1 m):=by rfl) (hm:0 < m∧m ≤ 17592186044416:=by omega)
  (ht:lk E.und t = some (.slice e):=by rfl) {kn:IntKind} (htn:lk E.und t' = some (.int kn):=by rfl) (he:lk E.inf e = some (z,1,by_):=by rfl) (hz:z.cells = #[z]:=by rfl) (hby:by_ ≤ 8:=by decide) (hd:Nat.blt d n.n = true:=by rfl) :
  TO E n X s ops (⟨some d,.call ⟨.builtin .append,#[x,y],#[t,t']⟩,ty,pos,after,none⟩ :: rest) fr A:=⟨fun w hw=>by
 obtain ⟨inf,hi,hiz,his,hib⟩:=E.info he
 obtain ⟨j,rfl⟩ : ∃ j:Nat,m = j:=⟨m.toNat,by omega⟩
 rw [Int.toNat_natCast] at k
 have hr:=Lib.run_append_nil_zeros (P:=P) w t t' ty e inf z k1 kn (E.un ht) (E.un htn) hi hiz j (by omega) (by rw [his];decide) (by omega) (by rw [hib];have:=Nat.mul_le_mul (show j ≤ 17592186044416 by omega) hby;omega)
 have hge:=grownCap_ge w j 0 e
 have hzc:∀ q,Builtin.zeroCells z.cells q = (List.replicate q z).toArray:=fun q=>by rw [hz];exact zeroCells1 z q
 refine SO_v hd (w':=w.drew.alloc (.cells (Builtin.zeroCells z.cells j ++ Builtin.zeroCells z.cells (grownCap w j 0 e - j)) e)) (v:=.slice (some ⟨w.heap.size,0,none⟩) j (grownCap w j 0 e)) ⟨fun a ha' _ _ _ _=>?_⟩ ((k _ rfl ⟨_,_,rfl,hge⟩).run _ (hw.new (((Upd.drew w).trans (Upd.alloc w.drew _)).weak (by simp)) ?_ ?_ (fun _ h=>h)))
 ·simp only [execOp,resolve]
  simp [ha'.ev hx,ha'.ev hy,invoke,builtin,hr]
 ·refine .inr ⟨w.heap.size,0,grownCap w j 0 e,_,by simp,heap_alloc_new w.drew _,by simpa using hge,grownCap_le_maxLen w j 0 e (by unfold maxLen;omega),?_,?_⟩
  ·rw [hzc,hzc];simp;omega
  ·rw [hzc,hzc];simp
 ·rintro b (h1 | h1 | h1)
  ·have h1':some w.heap.size = some b:=h1
   injection h1' with h1'
   rw [← h1'];exact Nat.le_refl _
  ·exact h1.elim
  ·exact h1.elim⟩
theorem capr {a0:Option Addr} {m c:Nat} (k:TO E n X s ops rest ((d,I c) :: fr) A) (hx:ev fr x = some (.slice a0 m c):=by rfl) (ht:lk E.und t = some (.slice e):=by rfl) (hd:Nat.blt d n.n = true:=by rfl):TO E n X s ops (⟨some d,.call ⟨.builtin .cap,#[x],#[t]⟩,ty,pos,after,none⟩ :: rest) fr A:=TO.val (fun w _=>⟨fun a ha _ _ _ _=>by
 simp only [execOp,resolve]
 simp [ha.ev hx,invoke,builtin,Builtin.cap_,run_underlying (P:=P) (E.un ht) w,goInt]⟩) k hd
theorem R_resl {m:Nat} {a0:Addr} {c:Nat} {hi:Int} {k2:IntKind} (ht:lk E.und t = some (.slice e)) (he:lk E.inf e = some (z,1,by_)) (hx:ev fr x = some (.slice (some a0) m c)) (hh:ev fr y = some (.int k2 hi)) (h0:0 ≤ hi) (hc:hi.toNat ≤ c) :
  OpV P n fr (.slice t x none (some y) none) ty w (.slice (some a0) hi.toNat c) w:=⟨fun a ha _ _ _ _=>by
 obtain ⟨inf,hi',_,hsz,_⟩:=E.info he
 obtain ⟨q,rfl⟩ : ∃ q:Nat,hi = q:=⟨hi.toNat,by omega⟩
 rw [Int.toNat_natCast] at hc
 have b1:∀ (cd:BoundsCode),(Instr.sliceBound (.int k2 (q:Int)) c cd).run P w = .ok q w:=fun cd=>by
  have:(0:Int) ≤ (q:Int)∧(q:Int) ≤ (c:Int):=by omega
  simp [Instr.sliceBound,asIntOf,this]
 simp only [execOp,ha.ev hx]
 simp only [Option.map,ha.ev hh]
 have e0:a0.add 0 = a0:=Addr_add0 a0
 simp [Instr.sliceAt,Instr.slice,run_underlying (P:=P) (E.un ht) w,Instr.sliceBounds,sizeOf,typeInfo,hi',hsz,b1,e0]⟩
theorem resl {m:Nat} {a0:Addr} {c:Nat} {hi:Int} {k2:IntKind} (k:TO E n X s ops rest ((d,.slice (some a0) hi.toNat c) :: fr) A) (hc:hi.toNat ≤ c) (hx:ev fr x = some (.slice (some a0) m c):=by rfl) (hh:ev fr y = some (.int k2 hi):=by rfl) (h0:0 ≤ hi:=by omega) (ht:lk E.und t = some (.slice e):=by rfl) (he:lk E.inf e = some (z,1,by_):=by rfl) (hd:Nat.blt d n.n = true:=by rfl) :
  TO E n X s ops (⟨some d,.slice t x none (some y) none,ty,pos,after,none⟩ :: rest) fr A:=TO.val (fun w _=>R_resl ht he hx hh h0 hc) k hd
theorem capz (k:TO E n X s ops rest ((d,I 0) :: fr) A) (hx:ev fr x = some (.slice none 0 0):=by rfl) (ht:lk E.und t = some (.slice e):=by rfl) (hd:Nat.blt d n.n = true:=by rfl):TO E n X s ops (⟨some d,.call ⟨.builtin .cap,#[x],#[t]⟩,ty,pos,after,none⟩ :: rest) fr A:=capr (c:=0) k hx ht hd
theorem lnz (k:TO E n X s ops rest ((d,I 0) :: fr) A) (hx:ev fr x = some (.slice none 0 0):=by rfl) (ht:lk E.und t = some (.slice e):=by rfl) (hd:Nat.blt d n.n = true:=by rfl):TO E n X s ops (⟨some d,.call ⟨.builtin .len,#[x],#[t]⟩,ty,pos,after,none⟩ :: rest) fr A:=ln (xs:=[]) k hx has_nil ht hd
theorem slnz {k2:IntKind} (k:TO E n X s ops rest ((d,nS) :: fr) A) (hx:ev fr x = some (.slice none 0 0):=by rfl) (hh:ev fr y = some (.int k2 0):=by rfl) (ht:lk E.und t = some (.slice e):=by rfl) (he:lk E.inf e = some (z,1,by_):=by rfl) (hd:Nat.blt d n.n = true:=by rfl) :
  TO E n X s ops (⟨some d,.slice t x none (some y) none,ty,pos,after,none⟩ :: rest) fr A:=sch (v:=nS) (xs:=[]) (hi:=0) k hx hh has_nil ⟨Int.le_refl _,Int.le_refl _⟩ ht he hd
theorem piece {g o n' cap:Nat} (hlt:lo < n') (hc:n' ≤ cap):slSub (.slice (some ⟨g,o,none⟩) n' cap) lo hi = .slice (some ⟨g,o + lo,none⟩) (hi - lo) (cap - lo):=by
 simp only [slSub]
 rw [if_neg (by omega)]
 simp [Addr.add_lit]
theorem clr {a:Value} (k:TO E n X s ops rest fr (own e a (xs.take lo ++ List.replicate (hi - lo) z ++ xs.drop hi) :: A')) (hx:ev fr x = some (slSub a lo hi)) (hm:Tk (own e a xs) A A':=by exact tkA) (hlo:lo ≤ hi:=by omega) (hhi:hi ≤ xs.length:=by omega)
  (ht:lk E.und t = some (.slice e):=by rfl) (he:lk E.inf e = some (z,1,by_):=by rfl) (hz:z.cells = #[z]:=by rfl) (hz1:z.oneCell' = true:=by rfl):TO E n X s ops (⟨none,.call ⟨.builtin .clear,#[x],#[t]⟩,ty,pos,after,none⟩ :: rest) fr A:=⟨fun w hw=>by
 have h2:=hw.im hm
 have h3:OwnO w e a xs:=h2.mem (List.Mem.head _)
 obtain ⟨inf,hi',hiz,hsz,_⟩:=E.info he
 have hzc:∀ q,Builtin.zeroCells z.cells q = (List.replicate q z).toArray:=fun q=>by rw [hz];exact zeroCells1 z q
 rcases h3 with ⟨rfl,rfl⟩ | ⟨g,o,cap,cur,rfl,hb,g2,g3,g4,g5⟩
 ·obtain rfl:hi = 0:=by simpa using hhi
  obtain rfl:lo = 0:=by omega
  refine SO_n (w':=w) (v:=.tuple #[]) ⟨fun a ha' _ _ _ _=>?_⟩ ((k.run w (by simpa using h2)))
  simp only [execOp,resolve]
  simp [ha'.ev hx,invoke,builtin,Builtin.clear_,run_underlying (P:=P) (E.un ht) w,slSub]
 ·by_cases hlt:lo < hi
  ·rw [piece (n':=xs.length) (by omega) g2] at hx
   have hst:=run_storeCells_at P g (o + lo) e (List.replicate (hi - lo) z) 0 cur w hb (by simp;omega) (fun c hc=>by rw [List.eq_of_mem_replicate hc];exact hz1)
   simp only [Nat.add_zero,List.length_replicate] at hst
   have hne:hi - lo ≠ 0:=by omega
   refine SO_n (w':=w.setRow g (cur.toList.take (o + lo) ++ List.replicate (hi - lo) z ++ cur.toList.drop (o + lo + (hi - lo))).toArray) (v:=.tuple #[]) ⟨fun a ha' _ _ _ _=>?_⟩ (k.run _ (h2.set (by simpa [Value.ownBlock] using Upd.setRow w g _) (fun b hb=>.inl (by simp at hb;subst hb;rfl)) ?_ ?_ (fun _ h=>h)))
   ·simp only [execOp,resolve]
    obtain ⟨q,hq⟩ : ∃ q,hi - lo = q + 1:=⟨hi - lo - 1,by omega⟩
    rw [hq] at hst
    simp [ha'.ev hx,invoke,builtin,Builtin.clear_,run_underlying (P:=P) (E.un ht) w,hq,zeroValue,typeInfo,hi',hiz,hzc,hst]
   ·have:=own_write (w:=w) (k:=lo) (cs:=List.replicate (hi - lo) z) hb g2 g3 g4 g5 (by simp;omega)
    simp only [List.length_replicate] at this
    rw [show lo + (hi - lo) = hi by omega] at this
    have hl:(xs.take lo ++ List.replicate (hi - lo) z ++ xs.drop hi).length = xs.length:=by simp;omega
    show OwnO _ _ _ _
    exact this
   ·rintro b (hb' | hb' | hb')
    ·exact .inl hb'
    ·exact hb'.elim
    ·exact hb'.elim
  ·obtain rfl:lo = hi:=by omega
   rw [Nat.sub_self,List.replicate_zero,List.append_nil,List.take_append_drop] at k
   obtain ⟨a',c',hsl⟩ : ∃ a' c',slSub (Value.slice (some ⟨g,o,none⟩) xs.length cap) lo lo = .slice a' 0 c':=by
    simp only [slSub,Nat.sub_self];exact ⟨_,_,rfl⟩
   rw [hsl] at hx
   refine SO_n (w':=w) (v:=.tuple #[]) ⟨fun a ha' _ _ _ _=>?_⟩ (k.run w h2)
   simp only [execOp,resolve]
   cases a' <;> simp [ha'.ev hx,invoke,builtin,Builtin.clear_,run_underlying (P:=P) (E.un ht) w]⟩
theorem cps {a:Value} (kk:TO E n X s ops rest ((d,I cs.length) :: fr) (own e a (xs.take lo ++ cs ++ xs.drop (lo + cs.length)) :: A')) (hx:ev fr x = some (slSub a lo hi)) (hy:ev fr y = some u:=by rfl) (hm:Tk (own e a xs) A A':=by exact tkA) (hu:Has A' (vw u cs):=by exact hasA) (hlo:lo < hi:=by omega) (hhi:hi ≤ xs.length:=by omega) (hcs:lo + cs.length ≤ hi:=by omega)
  (h1:∀ c ∈ cs,c.oneCell' = true) (ht:lk E.und t = some (.slice e):=by rfl) (he:lk E.inf e = some (z,1,by_):=by rfl) (hd:Nat.blt d n.n = true:=by rfl) :
  TO E n X s ops (⟨some d,.call ⟨.builtin .copy,#[x,y],#[t,t']⟩,ty,pos,after,none⟩ :: rest) fr A:=⟨fun w hw=>by
 have h2:=hw.im hm
 have h3:OwnO w e a xs:=h2.mem (List.Mem.head _)
 have h4:Sl w u cs:=has_sl (Sat.cons.1 h2.sat).2.2 hu
 obtain ⟨inf,hi',_,hsz,_⟩:=E.info he
 obtain ⟨o2,c2,rfl,p1,p2,p3⟩:=h4
 rcases h3 with ⟨_,rfl⟩ | ⟨g,o,cap,cur,rfl,hb,g2,g3,g4,g5⟩
 ·simp only [List.length_nil] at hhi;omega
 ·rw [piece (n':=xs.length) (by omega) g2] at hx
  by_cases h0:cs = []
  ·subst h0
   refine (TO.val (fun _ _=>R_copy0 ht he hx hy) (A:=A) ⟨fun w' hw'=>kk.run w' (by simpa using hw'.im hm)⟩ hd).run w hw
  ·have hlen:0 < cs.length:=List.length_pos_iff.2 h0
   obtain ⟨ad,rfl,_⟩:=p3 0 _ (List.getElem?_eq_getElem hlen)
   have hrun:=run_copy_row (P:=P) w t t' ty e g (o + lo) (hi - lo) (cap - lo) ad cs.length c2 cur e cs (E.un ht) (by rw [hi'];simp [hsz]) hb (by simp only [Nat.min_def];split <;> omega) (fun j u hj=>by obtain ⟨ad2,e3,h5⟩:=p3 j u hj;cases e3;exact h5) (by omega) h1
   refine SO_v hd (w':=w.setRow g (cur.toList.take (o + lo) ++ cs ++ cur.toList.drop (o + lo + cs.length)).toArray) (v:=I cs.length) ⟨fun a ha' _ _ _ _=>?_⟩ (kk.run _ (h2.set (by simpa [Value.ownBlock] using Upd.setRow w g _) (fun b hb=>.inl (by simp at hb;subst hb;rfl)) ?_ ?_ (fun _ h=>h)))
   ·simp only [execOp,resolve]
    simp [ha'.ev hx,ha'.ev hy,invoke,builtin,hrun,goInt]
   ·exact own_write (w:=w) hb g2 g3 g4 g5 (by omega)
   ·rintro b (hb' | hb' | hb')
    ·exact .inl hb'
    ·exact hb'.elim
    ·exact hb'.elim⟩
end
attribute [local irreducible] Fit pt own ro vw mpc lpt vels rels mow lrc dfr
end Go.Art
namespace Go.Art
open Go Go.Proofs Go.RowKit
attribute [local irreducible] Fit pt own ro vw mpc lpt vels rels mow lrc dfr
theorem Grow0_tr:Tr Tryz.prog 292 [nS,I 0] [] [] fun u D=>u = nS∧D = []:=by
 refine Tr.enter env _ Tryz.func292 (by kernel_rfl) rfl Tryz.ntmps292 rfl (by repeat (first | exact has00 | refine has01 ?_)) fun w0=>?_
 repeat' first|refine capz ?_|refine lnz ?_|(refine wo ?_;first|(refine ao ?_;first|refine aw ?_|refine oa ?_)|refine oa ?_)|(refine gc ?_;first|refine cf ?_)|refine sq ?_|refine rg ?_|refine xc ?_|refine nl ?_|refine sk ?_|refine rt ?_
 exact r1 ⟨rfl,rfl⟩
theorem GrowP_tr (n:Int) (hn:0 < n∧n ≤ 17592186044416):Tr Tryz.prog 292 [nS,I n] [] [] fun u D=>∃ b c,n.toNat ≤ c∧u = .slice (some ⟨b,0,none⟩) 0 c∧D = [own T64 (.slice (some ⟨b,0,none⟩) n.toNat c) (Us (List.replicate n.toNat 0))]:=by
 refine Tr.enter env _ Tryz.func292 (by kernel_rfl) rfl Tryz.ntmps292 rfl (by repeat (first | exact has00 | refine has01 ?_)) fun w0=>?_
 repeat' first|refine capz ?_|refine lnz ?_|refine slnz ?_|(refine aw ?_;rw [show (0:Int) - 0 = 0 from rfl])|(refine aw ?_;rw [show n - 0 = n from Int.sub_zero n])|(refine apz (z:=Un 0) fun v' ho hf=>?_;obtain ⟨b,c,hv,hc⟩:=hf;subst hv;rw [Us_rep])|refine resl (hi:=0) ?_ (Nat.zero_le _)|(refine wo ?_;first|(refine ao ?_;first|refine oa ?_)|refine oa ?_)|(refine gc ?_;first|(refine ci (fun hB=>?_) (fun hB=>?_) <;> try (exfalso;omega)))|refine sq ?_|refine rg ?_|refine xc ?_|refine nl ?_|refine sk ?_|refine rt ?_
 exact r1 ⟨b,c,hc,rfl,rfl⟩
theorem room_tr (n:Int) (hn:0 ≤ n∧n ≤ 17592186044416):Tr Tryz.prog 273 [I n] [] [] fun u D=>u.oneCell' = true∧D = [own T64 u (Us (List.replicate n.toNat 0))]:=by
 by_cases h0:n = 0
 ·subst h0
  refine Tr.enter env _ Tryz.func273 (by kernel_rfl) rfl Tryz.ntmps273 rfl (by repeat (first | exact has00 | refine has01 ?_)) fun w0=>?_
  repeat' first|(refine gca ?_;first|(refine ca Grow0_tr ?_;rintro _ _ ⟨rfl,rfl⟩))|refine slnz ?_|(refine TO.im (own_nil T64 _) ?_;refine clr (a:=nS) (lo:=0) (hi:=0) (z:=Un 0) ?_ rfl)|(refine wo ?_;first|refine oa ?_)|refine sq ?_|refine rg ?_|refine xc ?_|refine nl ?_|refine rt ?_
  exact r1 ⟨rfl,rfl⟩
 ·refine Tr.enter env _ Tryz.func273 (by kernel_rfl) rfl Tryz.ntmps273 rfl (by repeat (first | exact has00 | refine has01 ?_)) fun w0=>?_
  repeat' first|(refine gca ?_;first|(refine ca (GrowP_tr n (by omega)) ?_;rintro _ _ ⟨b,c,hc,rfl,rfl⟩))|refine resl ?_ hc|(refine clr (a:=.slice (some ⟨b,0,none⟩) n.toNat c) (lo:=0) (hi:=n.toNat) (z:=Un 0) ?_ (by rw [show slSub (.slice (some ⟨b,0,none⟩) n.toNat c) 0 n.toNat = .slice (some ⟨b,0,none⟩) n.toNat c by simp only [slSub,Nat.sub_zero];split <;> simp [Addr_add0]];rfl) (hhi:=by simp);rw [show (Us (List.replicate n.toNat 0)).take 0 ++ List.replicate (n.toNat - 0) (Un 0) ++ (Us (List.replicate n.toNat 0)).drop n.toNat = Us (List.replicate n.toNat 0) by simp])|(refine wo ?_;first|refine oa ?_)|refine sq ?_|refine rg ?_|refine xc ?_|refine nl ?_|refine rt ?_
  exact r1 ⟨rfl,rfl⟩
end Go.Art
namespace Go.Art
open Go Go.Proofs Go.RowKit
section
variable {P:Program} {E:Env P} {n:Sh} {X:Cx} {s:List K} {fr:Fr} {A A':List Ch} {ops:Array Oper} {rest:List Oper} {d:Nat} {ty t t':TypeId} {pos:String} {after:Array Edge} {x y:Operand} {w:World} {p q:Int}
theorem mxx (k:TO E n X s ops rest ((d,I (max p q)) :: fr) A) (hx:ev fr x = some (I p):=by rfl) (hy:ev fr y = some (I q):=by rfl) (hd:Nat.blt d n.n = true:=by rfl):TO E n X s ops (⟨some d,.call ⟨.builtin .max,#[x,y],#[t,t']⟩,ty,pos,after,none⟩ :: rest) fr A:=TO.val (fun w _=>⟨fun a ha _ _ _ _=>by
 have e:(if q > p then q else p) = max p q:=by split <;> omega
 simp only [execOp,resolve]
 simp [ha.ev hx,ha.ev hy,invoke,builtin,Builtin.max_,Builtin.max2,← e]⟩) k hd
theorem mnn (k:TO E n X s ops rest ((d,I (min p q)) :: fr) A) (hx:ev fr x = some (I p):=by rfl) (hy:ev fr y = some (I q):=by rfl) (hd:Nat.blt d n.n = true:=by rfl):TO E n X s ops (⟨some d,.call ⟨.builtin .min,#[x,y],#[t,t']⟩,ty,pos,after,none⟩ :: rest) fr A:=TO.val (fun w _=>⟨fun a ha _ _ _ _=>by
 have e:(if q < p then q else p) = min p q:=by split <;> omega
 simp only [execOp,resolve]
 simp [ha.ev hx,ha.ev hy,invoke,builtin,Builtin.min_,Builtin.min2,← e]⟩) k hd
end
section
variable {P:Program} {E:Env P} {n:Sh} {X:Cx} {s:List K} {fr:Fr} {A A' D G:List Ch}
theorem mc1 {w0:World} {A0:List Ch} {cl:List Value} {T ct:TypeId} {dt:TypeDesc} {R':Value→List Ch→Prop} {fn:Func} {t1 nn Dm b:Nat} {v1:Value} (h:R' v1 D) (hr:fn.results = #[.cell t1 ct]:=by rfl) (ht:lk E.und ct = some dt:=by rfl) (hg:aggB dt = false:=by rfl)
  (hv:get fr t1 = some (ptr b):=by rfl) (hm:Tk (dfr Dm) A A':=by exact tkA) (hc:pt b (v1 :: cl) T ∈ A':=by exact memA) (hf:Fit A' D G:=by exact fitA) (nb:∀ c ∈ D,∀ b,¬ c.bd b:=by (repeat (first | exact nb0 | refine nb1 ?_));first | done | fail) :
  TX E ⟨nn,[mark Dm],none⟩ ⟨bodyPostM (FF none) 0 P fn (RetP (PR w0 A0 R')),w0,A0⟩ [] .ret fr A:=⟨fun w hw=>
 SX_retM rfl ((hw.im hm).mem (List.Mem.head _)) fun a ha w' hU=>⟨v1,res_c (E:=E) ha hr ht hg hv (by
  have h1:=hw.im hm
  have h2:St ⟨bodyPostM (FF none) 0 P fn (RetP (PR w0 A0 R')),w0,A0⟩ A' w':=h1.step (A:=[dfr Dm]) (B:=[]) (F:=A') (Mv.upd hU (fun b hb=>.inl (wrs_one.2 (List.mem_singleton.1 hb))) (fun b hb=>absurd hb wrs_nil) (fun b hb=>absurd hb rds_nil)) (Sat.nil _) (by simp)
  exact blk_cell (h2.mem hc) rfl),PR.mkM h hw hm hf nb hU⟩⟩
end
def cmpN (a b:Nat):Int:=if a < b then -1 else if b < a then 1 else 0
theorem cmpN_eq {a b:Nat}:cmpN a b = 0 ↔ a = b:=by unfold cmpN;split <;> (try split) <;> omega
theorem cmpN_lt {a b:Nat}:cmpN a b < 0 ↔ a < b:=by unfold cmpN;split <;> (try split) <;> omega
attribute [local irreducible] Fit pt own ro vw mpc lpt vels rels mow lrc dfr
theorem down_tr (v1 v2:Value) (h1:v1.oneCell' = true) (h2:v2.oneCell' = true):Tr Tryz.prog 207 [v1,v2] [] [] fun u D=>∃ c1 c2,u = .func (.func 250) #[] #[ptr c1,ptr c2]∧D = [pt c1 [v1] TN,pt c2 [v2] TN]:=by
 refine Tr.enter env _ Tryz.func207 (by kernel_rfl) rfl Tryz.ntmps207 rfl (by repeat (first | exact has00 | refine has01 ?_)) fun w0=>?_
 repeat' first|refine bx1 fun b=>?_|(refine wo ?_;first|refine oa ?_)|refine sq ?_|refine rg ?_|refine xc ?_|refine nl ?_|refine rt ?_
 exact r1 ⟨_,_,rfl,rfl⟩
abbrev TRi:TypeId:=3
def cmpL (l r Dm:Nat) (rec:Loop) (a b:Nat):List Ch:=if a = b then [lrc l rec .ready none,dfr Dm,pt r [I 0] TRi] else [lrc l rec .done (some .ret),dfr Dm,pt r [I (cmpN a b)] TRi]
theorem down1_tr (l Dm c1 c2 r:Nat) (rec:Loop) (v1 v2:Value) (a b:List Nat) (ha:Dg a) (hb:Dg b)
  (hE:∀ x y,x = y→Ty Tryz.prog l [Un x,Un y] [] [lrc l rec .ready none,dfr Dm,pt r [I 0] TRi] fun ok B=>ok = true∧B = [lrc l rec .ready none,dfr Dm,pt r [I 0] TRi])
  (hN:∀ x y,x ≠ y→Ty Tryz.prog l [Un x,Un y] [] [lrc l rec .ready none,dfr Dm,pt r [I 0] TRi] fun ok B=>ok = false∧B = [lrc l rec .done (some .ret),dfr Dm,pt r [I (cmpN x y)] TRi]) :
  Tr Tryz.prog 250 [yv l,ptr c1,ptr c2] [lpt c1 [v1] TN,lpt c2 [v2] TN,vw v1 (Us a),vw v2 (Us b)] [lrc l rec .ready none,dfr Dm,pt r [I 0] TRi] fun _ B=>B = cmpL l r Dm rec (nv a) (nv b):=by
 refine Tr.enter env _ Tryz.func250 (by kernel_rfl) rfl Tryz.ntmps250 rfl (by repeat (first | exact has00 | refine has01 ?_)) fun w0=>?_
 refine TC.lenu (v:=v1) (l:=a) fun hla=>?_
 refine TC.lenu (v:=v2) (l:=b) fun hlb=>?_
 repeat' first|refine mxx ?_|(refine wo ?_;first|(refine ao ?_;first|refine aw ?_)|refine oa ?_|refine ldl ?_|refine lnm ?_)|refine sq ?_|refine rg ?_|refine xc ?_|refine nl ?_|refine bk ?_
 refine TC.loop (ι:=Int) (fun k=>[(4,I k)]) (fun _=>[lrc l rec .ready none,dfr Dm,pt r [I 0] TRi]) (fun k=>-1 ≤ k∧k ≤ 9223372036854775807∧nv (a.drop (k + 1).toNat) = nv (b.drop (k + 1).toNat)) (fun k=>(k + 1).toNat) (max (a.length:Int) b.length - 1) [0,1,2] ⟨by omega,by omega,?_⟩ ?_
 ·rw [List.drop_eq_nil_of_le (by omega),List.drop_eq_nil_of_le (by omega)]
 ·rintro k ⟨hk1,hk2,hI⟩
  by_cases hk:0 ≤ k
  ·obtain ⟨j,rfl⟩ : ∃ j:Nat,k = j:=⟨k.toNat,by omega⟩
   have hk0:(j:Int).toNat = j:=Int.toNat_natCast j
   rw [show ((j:Int) + 1).toNat = j + 1 by omega] at hI
   have s1:=nv_step a j
   have s2:=nv_step b j
   rw [hI] at s1
   have hx:=ha.getD j
   have hy:=hb.getD j
   by_cases he:a.getD j 0 = b.getD j 0
   ·have hY:=hE _ _ he
    repeat' first|refine rs (fun w=>w.heap[c1]? = some (.cells [v1].toArray TN (0,0))∧w.heap[c2]? = some (.cells [v2].toArray TN (0,0))) ?_ (fun w hw=>⟨lpt_at memA hw,lpt_at memA hw⟩)|(refine wo ?_;first|(refine ao ?_;first|refine oa ?_)|refine oa ?_)|(refine gc ?_;first|refine ct ?_)|refine sq ?_|refine rg ?_|refine xc ?_|refine nl ?_|refine sk ?_|refine bk ?_
    refine tka 0 ?_
    refine tkl 1 (cs:=[v1]) (fun w h=>h.1) ?_
    refine tka 2 ?_
    refine tkl 4 (cs:=[v2]) (fun w h=>h.2) ?_
    refine tka 5 ?_
    refine t1 3 ?_
    refine ca (digit_tr v1 a _ (by omega)) ?_
    rw [hk0]
    rintro _ _ ⟨rfl,rfl⟩
    refine nl ?_
    refine te (fun w hw=>⟨lpt_at memA hw,lpt_at memA hw⟩) ?_
    refine t1 6 ?_
    refine ca (digit_tr v2 b _ (by omega)) ?_
    rw [hk0]
    rintro _ _ ⟨rfl,rfl⟩
    refine nl ?_
    refine te (fun w hw=>⟨lpt_at memA hw,lpt_at memA hw⟩) ?_
    refine t1 7 ?_
    refine cy hY ?_
    rintro _ _ ⟨rfl,rfl⟩
    refine nl ?_
    refine te (fun w hw=>⟨lpt_at memA hw,lpt_at memA hw⟩) ?_
    refine t1 8 ?_
    refine oa ?_
    refine nl ?_
    refine te (fun w hw=>⟨lpt_at memA hw,lpt_at memA hw⟩) ?_
    refine t0 ?_
    refine xc ?_
    repeat' first|(refine wo ?_;first|(refine ao ?_;first|refine aw ?_)|refine oa ?_)|(refine gc ?_;first|refine cf ?_)|refine rg ?_|refine xc ?_|refine nl ?_|refine sk ?_|refine xb ?_
    exact lp ((j:Int) - 1) ⟨by omega,by omega,by rw [show ((j:Int) - 1 + 1).toNat = j by omega,s1,s2,he]⟩
   ·have hY:=hN _ _ he
    have hc:∀ x y,x ≠ y→nv a ≠ nv b∧cmpN (nv a) (nv b) = cmpN x y∨¬ (x = a.getD j 0∧y = b.getD j 0):=by
     intro x y hxy
     by_cases hh:x = a.getD j 0∧y = b.getD j 0
     ·obtain ⟨rfl,rfl⟩:=hh
      rcases Nat.lt_or_gt_of_ne hxy with h | h
      ·have:=nv_lt_of (b:=b) ha j (by omega)
       exact .inl ⟨by omega,by unfold cmpN;rw [if_pos this,if_pos h]⟩
      ·have:=nv_lt_of (b:=a) hb j (by omega)
       exact .inl ⟨by omega,by unfold cmpN;rw [if_neg (by omega),if_pos this,if_neg (by omega),if_pos h]⟩
     ·exact .inr hh
    have hc2:=(hc _ _ he).resolve_right (fun h=>h ⟨rfl,rfl⟩)
    repeat' first|refine rs (fun w=>w.heap[c1]? = some (.cells [v1].toArray TN (0,0))∧w.heap[c2]? = some (.cells [v2].toArray TN (0,0))) ?_ (fun w hw=>⟨lpt_at memA hw,lpt_at memA hw⟩)|(refine wo ?_;first|(refine ao ?_;first|refine oa ?_)|refine oa ?_)|(refine gc ?_;first|refine ct ?_)|refine sq ?_|refine rg ?_|refine xc ?_|refine nl ?_|refine sk ?_|refine bk ?_
    refine tka 0 ?_
    refine tkl 1 (cs:=[v1]) (fun w h=>h.1) ?_
    refine tka 2 ?_
    refine tkl 4 (cs:=[v2]) (fun w h=>h.2) ?_
    refine tka 5 ?_
    refine t1 3 ?_
    refine ca (digit_tr v1 a _ (by omega)) ?_
    rw [hk0]
    rintro _ _ ⟨rfl,rfl⟩
    refine nl ?_
    refine te (fun w hw=>⟨lpt_at memA hw,lpt_at memA hw⟩) ?_
    refine t1 6 ?_
    refine ca (digit_tr v2 b _ (by omega)) ?_
    rw [hk0]
    rintro _ _ ⟨rfl,rfl⟩
    refine nl ?_
    refine te (fun w hw=>⟨lpt_at memA hw,lpt_at memA hw⟩) ?_
    refine t1 7 ?_
    refine cy hY ?_
    rintro _ _ ⟨rfl,rfl⟩
    refine nl ?_
    refine te (fun w hw=>⟨lpt_at memA hw,lpt_at memA hw⟩) ?_
    refine t1 8 ?_
    refine oa ?_
    refine nl ?_
    refine te (fun w hw=>⟨lpt_at memA hw,lpt_at memA hw⟩) ?_
    refine t0 ?_
    refine xc ?_
    repeat' first|(refine gc ?_;first|refine ct ?_)|refine rt ?_
    exact r0 (by rw [cmpL,if_neg hc2.1,hc2.2])
  ·repeat' first|(refine wo ?_;first|(refine ao ?_;first|refine oa ?_)|refine oa ?_)|(refine gc ?_;first|(refine ci (fun hB=>?_) (fun hB=>?_) <;> try (exfalso;omega)))|refine sq ?_|refine rg ?_|refine xc ?_|refine nl ?_|refine xe ?_
   exact e0 (D:=[lrc l rec .ready none,dfr Dm,pt r [I 0] TRi]) (by rw [show (k + 1).toNat = 0 by omega,List.drop_zero,List.drop_zero] at hI;rw [cmpL,if_pos hI])
theorem Cmp_tr (v1 v2:Value) (a b:List Nat) (ha:Dg a) (hb:Dg b):Tr Tryz.prog 154 [v1,v2] [vw v1 (Us a),vw v2 (Us b)] [] fun u D=>u = I (cmpN (nv a) (nv b))∧D = []:=by
 refine Tr.enterM env _ Tryz.func154 (by kernel_rfl) rfl Tryz.ntmps154 rfl (by repeat (first | exact has00 | refine has01 ?_)) fun w0=>?_
 refine TC.one (v:=v1) (xs:=Us a) fun h1=>?_
 refine TC.one (v:=v2) (xs:=Us b) fun h2=>?_
 repeat' first|(refine gca ?_;first|(refine ca (down_tr v1 v2 h1 h2) ?_;rintro _ _ ⟨c1,c2,rfl,rfl⟩))|refine al fun r=>?_|(refine wo ?_;first|refine oa ?_)|refine sq ?_|refine rg ?_|refine xc ?_|refine nl ?_|refine bk ?_
 refine TC.range [lpt c1 [v1] TN,lpt c2 [v2] TN,vw v1 (Us a),vw v2 (Us b)] [pt r [I 0] TRi]
  (fun l rec Dm pend B'=>if nv a = nv b then pend = none∧B' = [dfr Dm,pt r [I 0] TRi] else pend = some .ret∧B' = [dfr Dm,pt r [I (cmpN (nv a) (nv b))] TRi]) ?_ ?_
 ·intro rec l Dm hr
  refine (down1_tr l Dm c1 c2 r rec v1 v2 a b ha hb ?_ ?_).mono ?_
  ·rintro x _ rfl
   refine Ty.intro env hr has00 fun w1=>?_
   repeat' first|refine xbeg ?_|(refine wo ?_;first|(refine ao ?_;first|refine oa ?_)|refine oa ?_)|(refine gc ?_;first|(refine ci (fun hB=>?_) (fun hB=>?_) <;> try (exfalso;omega)))|refine sq ?_|refine rg ?_|refine xc ?_|refine nl ?_|refine sk ?_|refine bk ?_|refine xb ?_
   exact yn ⟨rfl,rfl⟩
  ·intro x y hxy
   by_cases h:x < y
   ·have hc:cmpN x y = -1:=by rw [cmpN,if_pos h]
    rw [hc]
    refine Ty.intro env hr has00 fun w1=>?_
    repeat' first|refine xbeg ?_|(refine wo ?_;first|(refine ao ?_;first|refine oa ?_)|refine oa ?_|refine sr ?_)|(refine gc ?_;first|(refine ci (fun hB=>?_) (fun hB=>?_) <;> try (exfalso;omega)))|refine sq ?_|refine rg ?_|refine xc ?_|refine nl ?_|refine bk ?_|refine rt ?_
    exact yr ⟨rfl,rfl⟩
   ·have hc:cmpN x y = 1:=by rw [cmpN,if_neg h,if_pos (by omega)]
    rw [hc]
    refine Ty.intro env hr has00 fun w1=>?_
    repeat' first|refine xbeg ?_|(refine wo ?_;first|(refine ao ?_;first|refine oa ?_)|refine oa ?_|refine sr ?_)|(refine gc ?_;first|(refine ci (fun hB=>?_) (fun hB=>?_) <;> try (exfalso;omega)))|refine sq ?_|refine rg ?_|refine xc ?_|refine nl ?_|refine bk ?_|refine rt ?_
    exact yr ⟨rfl,rfl⟩
  ·rintro v B rfl
   unfold cmpL
   by_cases h:nv a = nv b
   ·rw [if_pos h];exact ⟨_,_,_,rfl,by decide,by rw [if_pos h];exact ⟨rfl,rfl⟩⟩
   ·rw [if_neg h];exact ⟨_,_,_,rfl,by decide,by rw [if_neg h];exact ⟨rfl,rfl⟩⟩
 ·intro l rec Dm pend B' h
  by_cases hc:nv a = nv b
  ·rw [if_pos hc] at h
   obtain ⟨rfl,rfl⟩:=h
   show TX env _ _ _ _ _ _
   repeat' first|(refine wo ?_;first|refine sr ?_)|refine sq ?_|refine rg ?_|refine xc ?_|refine nl ?_|refine rt ?_|refine xb ?_
   exact mc1 (b:=r) (cl:=[]) (T:=TRi) (v1:=I 0) ⟨by rw [cmpN_eq.2 hc],rfl⟩
  ·rw [if_neg hc] at h
   obtain ⟨rfl,rfl⟩:=h
   show TC env _ _ _ _ _ _
   repeat' first|refine rt ?_
   exact mc1 (b:=r) (cl:=[]) (T:=TRi) ⟨rfl,rfl⟩
end Go.Art
namespace Go.Art
open Go Go.Proofs Go.RowKit
theorem getD_over {l:List Nat} {i:Nat} (h:l.length ≤ i):l.getD i 0 = 0:=by rw [List.getD_eq_getElem?_getD,List.getElem?_eq_none h];rfl
theorem nv_take_s (l:List Nat) (i:Nat):nv (l.take (i + 1)) = nv (l.take i) + 18446744073709551616 ^ i * l.getD i 0:=by
 by_cases h:i < l.length
 ·exact nv_take_succ l i h
 ·rw [getD_over (by omega),List.take_of_length_le (by omega),List.take_of_length_le (by omega)];simp
theorem nv_take_all {l:List Nat} {i:Nat} (h:l.length ≤ i):nv (l.take i) = nv l:=by rw [List.take_of_length_le h]
theorem getD_setN (l:List Nat) (i x:Nat) (h:i < l.length):(l.set i x).getD i 0 = x:=by simp [List.getD_eq_getElem?_getD,h]
theorem take_setN (l:List Nat) (i x:Nat):(l.set i x).take i = l.take i:=by rw [List.take_set,List.set_eq_of_length_le (by rw [List.length_take];omega)]
theorem nv_set_take (l:List Nat) (i x:Nat) (h:i < l.length):nv ((l.set i x).take (i + 1)) = nv (l.take i) + 18446744073709551616 ^ i * x:=by rw [nv_take_s,take_setN,getD_setN l i x h]
theorem add_step {p L M N x y c d e:Nat} (h:L + c * p = M + N) (hd:d + 18446744073709551616 * e = x + y + c):L + p * d + e * (p * 18446744073709551616) = M + p * x + (N + p * y):=by
 have:=congrArg (p * ·) hd
 simp only [Nat.mul_add] at this
 rw [show e * (p * 18446744073709551616) = p * (18446744073709551616 * e) by ac_rfl]
 rw [Nat.mul_comm c] at h
 omega
theorem sub_step {p L M N x y c d e:Nat} (h:L + N = M + c * p) (hd:d + y + c = x + e * 18446744073709551616):L + p * d + (N + p * y) = M + p * x + e * (p * 18446744073709551616):=by
 have:=congrArg (p * ·) hd
 simp only [Nat.mul_add] at this
 rw [show e * (p * 18446744073709551616) = p * (e * 18446744073709551616) by ac_rfl]
 rw [Nat.mul_comm c] at h
 omega
attribute [local irreducible] Fit pt own ro vw mpc lpt vels rels mow lrc dfr
theorem trim_own (v:Value) (l:List Nat) (hd:Dg l) {k:Nat} (h1:k ≤ l.length) (h2:nv (l.drop k) = 0) (h3:Tm (l.take k)) (A:List Ch):Im (own T64 v (Us l) :: A) (own T64 (slSub v 0 k) (Us (dg (nv l))) :: A):=by
 have hk:dg (nv l) = l.take k:=by rw [← dg_top hd h2,dg_nv (hd.take k) h3]
 rw [hk]
 exact Im1.im (im_take T64 v l h1) A
theorem digitN_tr (v:Value) (l:List Nat) (i:Nat):Tr Tryz.prog 251 [v,I i] [vw v (Us l)] [] fun u D=>u = Un (l.getD i 0)∧D = []:=digit_tr v l i (Int.natCast_nonneg i)
theorem NAdd_tr (v1 v2:Value) (a b:List Nat) (ha:Dg a) (hb:Dg b) (hla:a.length ≤ 1099511627776) (hlb:b.length ≤ 1099511627776):Tr Tryz.prog 229 [v1,v2] [vw v1 (Us a),vw v2 (Us b)] [] fun u D=>u.oneCell' = true∧D = [own T64 u (Us (dg (nv a + nv b)))]:=by
 obtain ⟨m,hm⟩ : ∃ m:Nat,max (a.length:Int) b.length + 1 = m:=⟨max a.length b.length + 1,by omega⟩
 refine Tr.enter env _ Tryz.func229 (by kernel_rfl) rfl Tryz.ntmps229 rfl (by repeat (first | exact has00 | refine has01 ?_)) fun w0=>?_
 repeat' first|(refine gca ?_;first|(refine ca (room_tr m (by omega)) ?_;rintro o _ ⟨ho,rfl⟩))|refine mxx ?_|(refine aw ?_;rw [hm])|(refine wo ?_;first|refine oa ?_|refine lnm ?_)|refine sq ?_|refine rg ?_|refine xc ?_|refine nl ?_|refine bk ?_
 rw [Int.toNat_natCast]
 refine TC.loop (ι:=Nat × Nat × List Nat) (fun k=>[(6,I k.1),(7,Un k.2.1)]) (fun k=>[own T64 o (Us k.2.2)]) (fun k=>k.2.2.length = m∧k.1 ≤ m∧k.2.1 ≤ 1∧Dg k.2.2∧nv (k.2.2.take k.1) + k.2.1 * 18446744073709551616 ^ k.1 = nv (a.take k.1) + nv (b.take k.1)) (fun k=>m - k.1) (0,0,List.replicate m 0) [0,1,5] ⟨by simp,by simp,by simp,Dg.rep _,by simp [nv]⟩ ?_
 rintro ⟨i,c,ys⟩ ⟨h1,h2,hc,hd,hI⟩
 dsimp only at h1 h2 hc hd hI ⊢
 have hk0:(i:Int).toNat = i:=Int.toNat_natCast i
 by_cases hi:i < m
 ·have hx:=ha.getD i
  have hy:=hb.getD i
  have hs:=add_step (p:=18446744073709551616 ^ i) (d:=(a.getD i 0 + b.getD i 0 + c) % 18446744073709551616) (e:=(a.getD i 0 + b.getD i 0 + c) / 18446744073709551616) hI (Nat.mod_add_div _ _)
  have hdl:(a.getD i 0 + b.getD i 0 + c) % 18446744073709551616 < 18446744073709551616:=Nat.mod_lt _ (by decide)
  have hel:(a.getD i 0 + b.getD i 0 + c) / 18446744073709551616 ≤ 1:=by omega
  repeat' first|(refine gca ?_;first|(refine ca (digitN_tr v1 a i) ?_;rintro _ _ ⟨rfl,rfl⟩)|(refine ca (digitN_tr v2 b i) ?_;rintro _ _ ⟨rfl,rfl⟩))|refine cadd hc ?_|(refine wo ?_;first|(refine ao ?_;first|refine aw ?_|refine oa ?_)|refine sou ?_|refine oa ?_|refine lnm ?_|refine ixmn ?_)|(refine gc ?_;first|(refine ci (fun hB=>?_) (fun hB=>?_) <;> try (exfalso;omega)))|refine sq ?_|refine rg ?_|refine xc ?_|refine nl ?_|refine sk ?_|refine bk ?_|refine xb ?_
  exact lp (i + 1,(a.getD i 0 + b.getD i 0 + c) / 18446744073709551616,ys.set i ((a.getD i 0 + b.getD i 0 + c) % 18446744073709551616)) ⟨by dsimp only;rw [List.length_set];exact h1,by dsimp only;omega,hel,hd.set hdl,by dsimp only;rw [nv_set_take _ _ _ (by omega),nv_take_s,nv_take_s,Nat.pow_succ];exact hs⟩
 ·obtain rfl:i = m:=by omega
  have hn:nv ys = nv a + nv b:=by
   rw [nv_take_all (by omega),nv_take_all (by omega),nv_take_all (by omega)] at hI
   have b1:=nv_lt ha
   have b2:=nv_lt hb
   have b3:18446744073709551616 ^ a.length ≤ 18446744073709551616 ^ (i - 1):=Nat.pow_le_pow_right (by decide) (by omega)
   have b4:18446744073709551616 ^ b.length ≤ 18446744073709551616 ^ (i - 1):=Nat.pow_le_pow_right (by decide) (by omega)
   have b5:18446744073709551616 ^ i = 18446744073709551616 ^ (i - 1) * 18446744073709551616:=by rw [← Nat.pow_succ];congr 1;omega
   rcases Nat.eq_zero_or_pos c with rfl | hp
   ·omega
   ·obtain rfl:c = 1:=by omega
    rw [b5] at hI
    omega
  rw [← hn]
  repeat' first|(refine gca ?_;first|(refine ca (trimmed_tr o ys) ?_;rintro _ _ ⟨⟨k,g1,rfl,g2,g3⟩,rfl⟩;refine TO.im (trim_own o ys hd g1 g2 g3 _) ?_)|(refine ca (NClip_tr _ _) ?_;rintro u _ ⟨hu,rfl⟩))|(refine wo ?_;first|(refine ao ?_;first|refine oa ?_)|refine oa ?_|refine lnm ?_)|(refine gc ?_;first|(refine ci (fun hB=>?_) (fun hB=>?_) <;> try (exfalso;omega)))|refine sq ?_|refine rg ?_|refine xc ?_|refine nl ?_|refine xe ?_|refine rt ?_
  exact r1 ⟨hu,rfl⟩
theorem NSub_tr (v1 v2:Value) (a b:List Nat) (ha:Dg a) (hb:Dg b) (hla:a.length ≤ 1099511627776) (hlb:b.length ≤ 1099511627776) (hle:nv b ≤ nv a):Tr Tryz.prog 230 [v1,v2] [vw v1 (Us a),vw v2 (Us b)] [] fun u D=>∃ o,u = tup2 o (I 0)∧o.oneCell' = true∧D = [own T64 o (Us (dg (nv a - nv b)))]:=by
 have hcm:¬ cmpN (nv a) (nv b) < 0:=by rw [cmpN_lt];omega
 refine Tr.enter env _ Tryz.func230 (by kernel_rfl) rfl Tryz.ntmps230 rfl (by repeat (first | exact has00 | refine has01 ?_)) fun w0=>?_
 repeat' first|(refine gca ?_;first|(refine ca (Cmp_tr v1 v2 a b ha hb) ?_;rintro _ _ ⟨rfl,rfl⟩)|(refine ca (room_tr (a.length:Int) (by omega)) ?_;rintro o _ ⟨ho,rfl⟩))|(refine wo ?_;first|(refine ao ?_;first|refine oa ?_)|refine oa ?_|refine lnm ?_)|(refine gc ?_;first|(refine ci (fun hB=>?_) (fun hB=>?_) <;> try (exfalso;omega)))|refine sq ?_|refine rg ?_|refine xc ?_|refine nl ?_|refine sk ?_|refine bk ?_
 rw [Int.toNat_natCast]
 refine TC.loop (ι:=Nat × Nat × List Nat) (fun k=>[(7,I k.1),(8,Un k.2.1)]) (fun k=>[own T64 o (Us k.2.2)]) (fun k=>k.2.2.length = a.length∧k.1 ≤ a.length∧k.2.1 ≤ 1∧Dg k.2.2∧nv (k.2.2.take k.1) + nv (b.take k.1) = nv (a.take k.1) + k.2.1 * 18446744073709551616 ^ k.1) (fun k=>a.length - k.1) (0,0,List.replicate a.length 0) [0,1,6] ⟨by simp,by simp,by simp,Dg.rep _,by simp [nv]⟩ ?_
 rintro ⟨i,c,ys⟩ ⟨h1,h2,hc,hd,hI⟩
 dsimp only at h1 h2 hc hd hI ⊢
 by_cases hi:i < a.length
 ·have hx:=ha.getD i
  have hy:=hb.getD i
  have hs:=sub_step (p:=18446744073709551616 ^ i) (d:=(a.getD i 0 + 18446744073709551616 - b.getD i 0 - c) % 18446744073709551616) (x:=a.getD i 0) (y:=b.getD i 0) (e:=if a.getD i 0 < b.getD i 0 + c then 1 else 0) hI (by split <;> omega)
  have hdl:(a.getD i 0 + 18446744073709551616 - b.getD i 0 - c) % 18446744073709551616 < 18446744073709551616:=Nat.mod_lt _ (by decide)
  have hel:(if a.getD i 0 < b.getD i 0 + c then 1 else 0) ≤ 1:=by split <;> omega
  repeat' first|refine rs (fun w=>Sl w v1 (Us a)) ?_ (fun w hw=>vw_sl (hw.h (vw v1 (Us a)) memA))|(refine wo ?_;first|(refine ao ?_;first|refine oa ?_)|refine oa ?_|refine lnm ?_)|(refine gc ?_;first|(refine ci (fun hB=>?_) (fun hB=>?_) <;> try (exfalso;omega)))|refine sq ?_|refine rg ?_|refine xc ?_|refine nl ?_|refine sk ?_|refine bk ?_
  refine tka 0 ?_
  refine tka 1 ?_
  refine tka 2 ?_
  refine tka 3 ?_
  refine tk 4 (v:=.pointer (some (addrAt v1 i))) (fun w h=>R_idx (E:=env) (i:=(i:Int)) rfl rfl rfl rfl h ⟨Int.natCast_nonneg i,by rw [Us_len];omega⟩) ?_
  refine tk 5 (v:=Un (a.getD i 0)) (fun w h=>R_load (E:=env) rfl rfl rfl (h.cell (Us_get a i hi))) ?_
  refine tka 6 ?_
  refine tka 7 ?_
  refine tka 9 ?_
  refine t1 8 ?_
  refine ca (digitN_tr v2 b i) ?_
  rintro _ _ ⟨rfl,rfl⟩
  refine nl ?_
  refine te (fun w hw=>vw_sl (hw.h (vw v1 (Us a)) memA)) ?_
  refine t1 10 ?_
  refine csub hc ?_
  refine nl ?_
  refine te (fun w hw=>vw_sl (hw.h (vw v1 (Us a)) memA)) ?_
  refine tka 11 ?_
  refine tka 12 ?_
  refine tka 13 ?_
  refine t1 14 ?_
  refine ixmn ?_
  refine nl ?_
  refine te (fun w hw=>vw_sl (hw.h (vw v1 (Us a)) memA)) ?_
  refine t1 15 ?_
  refine sou ?_
  refine nl ?_
  refine te (fun w hw=>vw_sl (hw.h (vw v1 (Us a)) memA)) ?_
  refine tka 16 ?_
  refine t0 ?_
  repeat' first|(refine wo ?_;first|(refine ao ?_;first|refine aw ?_)|refine oa ?_)|refine rg ?_|refine xc ?_|refine nl ?_|refine xb ?_
  exact lp (i + 1,(if a.getD i 0 < b.getD i 0 + c then 1 else 0),ys.set i ((a.getD i 0 + 18446744073709551616 - b.getD i 0 - c) % 18446744073709551616)) ⟨by dsimp only;rw [List.length_set];exact h1,by dsimp only;omega,hel,hd.set hdl,by dsimp only;rw [nv_set_take _ _ _ (by omega),nv_take_s,nv_take_s,Nat.pow_succ];exact hs⟩
 ·obtain rfl:i = a.length:=by omega
  have hn:nv ys = nv a - nv b:=by
   rw [nv_take_all (by omega),nv_take_all (Nat.le_refl _)] at hI
   have b1:=nv_lt ha
   have b2:=nv_lt hd
   have b3:=nv_cut b a.length
   rw [h1] at b2
   rcases Nat.eq_zero_or_pos (nv (b.drop a.length)) with h0 | hp
   ·rw [h0] at b3
    rcases Nat.eq_zero_or_pos c with rfl | hp
    ·omega
    ·obtain rfl:c = 1:=by omega
     omega
   ·have:=Nat.mul_le_mul_left (18446744073709551616 ^ a.length) hp
    omega
  rw [← hn]
  repeat' first|(refine gca ?_;first|(refine ca (trimmed_tr o ys) ?_;rintro _ _ ⟨⟨k,g1,rfl,g2,g3⟩,rfl⟩;refine TO.im (trim_own o ys hd g1 g2 g3 _) ?_)|(refine ca (NClip_tr _ _) ?_;rintro u _ ⟨hu,rfl⟩))|(refine wo ?_;first|(refine ao ?_;first|refine oa ?_)|refine oa ?_|refine lnm ?_)|(refine gc ?_;first|(refine ci (fun hB=>?_) (fun hB=>?_) <;> try (exfalso;omega)))|refine sq ?_|refine rg ?_|refine xc ?_|refine nl ?_|refine xe ?_|refine rt ?_
  exact r2 ⟨u,rfl,hu,rfl⟩
theorem NSub0_tr (v1 v2:Value) (a b:List Nat) (ha:Dg a) (hb:Dg b) (hlt:nv a < nv b):Tr Tryz.prog 230 [v1,v2] [vw v1 (Us a),vw v2 (Us b)] [] fun u D=>u = tup2 nS (I 3)∧D = []:=by
 have hcm:cmpN (nv a) (nv b) < 0:=cmpN_lt.2 hlt
 refine Tr.enter env _ Tryz.func230 (by kernel_rfl) rfl Tryz.ntmps230 rfl (by repeat (first | exact has00 | refine has01 ?_)) fun w0=>?_
 repeat' first|(refine gca ?_;first|(refine ca (Cmp_tr v1 v2 a b ha hb) ?_;rintro _ _ ⟨rfl,rfl⟩))|(refine wo ?_;first|(refine ao ?_;first|refine oa ?_)|refine oa ?_)|(refine gc ?_;first|(refine ci (fun hB=>?_) (fun hB=>?_) <;> try (exfalso;omega)))|refine sq ?_|refine rg ?_|refine xc ?_|refine nl ?_|refine rt ?_
 exact r2 ⟨rfl,rfl⟩
end Go.Art
namespace Go.Art
open Go Go.Proofs Go.RowKit
theorem bitLen_bounds (y:Nat) (h:y < 18446744073709551616) (h0:y ≠ 0):1 ≤ Lib.bitLen y∧2 ^ (Lib.bitLen y - 1) ≤ y∧y < 2 ^ Lib.bitLen y:=Lib.bitLenAux_bounds 64 y (by omega) h0
theorem bitLen_le64 (y:Nat) (h:y < 18446744073709551616):Lib.bitLen y ≤ 64:=Lib.bitLen_le y 64 (Nat.le_refl _) h
theorem lz_ex (y:Nat) (h:y < 18446744073709551616) (h0:y ≠ 0):∃ s:Nat,s ≤ 63∧64 - (Lib.bitLen y:Int) = (s:Int)∧9223372036854775808 ≤ y * 2 ^ s∧y * 2 ^ s < 18446744073709551616:=by
 obtain ⟨h1,h2,h3⟩:=bitLen_bounds y h h0
 have h4:=bitLen_le64 y h
 refine ⟨64 - Lib.bitLen y,by omega,by omega,?_,?_⟩
 ·have e:2 ^ (Lib.bitLen y - 1) * 2 ^ (64 - Lib.bitLen y) = 9223372036854775808:=by
   rw [← Nat.pow_add,show Lib.bitLen y - 1 + (64 - Lib.bitLen y) = 63 by omega]
  rw [← e];exact Nat.mul_le_mul_right _ h2
 ·have e:2 ^ Lib.bitLen y * 2 ^ (64 - Lib.bitLen y) = 18446744073709551616:=by
   rw [← Nat.pow_add,show Lib.bitLen y + (64 - Lib.bitLen y) = 64 by omega]
  rw [← e];exact Nat.mul_lt_mul_of_pos_right h3 (Nat.pow_pos (by decide))
theorem pow_split {s:Nat} (hs:s ≤ 64):2 ^ (64 - s) * 2 ^ s = 18446744073709551616:=by rw [← Nat.pow_add,show 64 - s + s = 64 by omega]
theorem d64 {h l y s:Nat} (hs:s ≤ 63) (hl:l < 18446744073709551616) (hh:h < y) (hy:y * 2 ^ s < 18446744073709551616) :
  h * 2 ^ s < 18446744073709551616∧l / 2 ^ (64 - s) < 2 ^ s∧h * 2 ^ s + l / 2 ^ (64 - s) < y * 2 ^ s∧(h * 18446744073709551616 + l) * 2 ^ s = (h * 2 ^ s + l / 2 ^ (64 - s)) * 18446744073709551616 + l * 2 ^ s % 18446744073709551616:=by
 have hp:0 < 2 ^ s:=Nat.pow_pos (by decide)
 have hsp:=pow_split (s:=s) (by omega)
 have h1:h * 2 ^ s < y * 2 ^ s:=Nat.mul_lt_mul_of_pos_right hh hp
 have h2:l / 2 ^ (64 - s) < 2 ^ s:=Nat.div_lt_of_lt_mul (by rw [hsp];exact hl)
 have h3:(h + 1) * 2 ^ s ≤ y * 2 ^ s:=Nat.mul_le_mul_right _ hh
 have h4:l * 2 ^ s / 18446744073709551616 = l / 2 ^ (64 - s):=by rw [← hsp];exact Nat.mul_div_mul_right _ _ hp
 have h5:=Nat.div_add_mod (l * 2 ^ s) 18446744073709551616
 rw [h4] at h5
 generalize l / 2 ^ (64 - s) = q at *
 generalize l * 2 ^ s % 18446744073709551616 = r at *
 rw [Nat.add_mul] at h3
 refine ⟨by omega,h2,by omega,?_⟩
 rw [Nat.add_mul,← h5,Nat.add_mul,Nat.mul_right_comm];omega
def div64 (h l y:Nat):Value:=.tuple #[Un ((h * 18446744073709551616 + l) / y),Un ((h * 18446744073709551616 + l) % y)]
attribute [local irreducible] Fit pt own ro vw mpc lpt vels rels mow lrc dfr
theorem Div64_low (l y:Nat) (hl:l < 18446744073709551616) (hy:y < 18446744073709551616) (hh:0 < y):Tr Tryz.prog 239 [Un 0,Un l,Un y] [] [] fun v D=>v = .tuple #[Un (l / y),Un (l % y)]∧D = []:=by
 refine Tr.enter env _ Tryz.func239 (by kernel_rfl) rfl Tryz.ntmps239 rfl (by repeat (first | exact has00 | refine has01 ?_)) fun w0=>?_
 repeat' first|(refine wo ?_;first|(refine ao ?_;first|refine oa ?_)|refine oa ?_)|(refine gc ?_;first|refine ct ?_|(refine ci (fun hB=>?_) (fun hB=>?_) <;> try (exfalso;omega)))|refine sq ?_|refine rg ?_|refine xc ?_|refine nl ?_|refine sk ?_|refine rt ?_|refine rq ?_|refine nq ?_|(refine wq ?_;first|(refine qao ?_;first|(refine qnao ?_;first|refine qnqu ?_|refine qnrm ?_))|refine qa ?_)
 exact r2 ⟨rfl,rfl⟩
set_option maxHeartbeats 4000000 in
set_option maxRecDepth 10000 in
theorem Div64_walk (h l y s V H L U w1 n1 n0 u1 u0 q0 r0 m0 Q1 a1 U2 p0 t0 r2' m2 m3 Q2 a2 U3 R:Nat) (h0:h ≠ 0) (hs:s ≤ 63) (hl:l < 18446744073709551616) (hy:y < 18446744073709551616) (hh:h < y) (hse:64 - (Lib.bitLen y:Int) = (s:Int))
  (eV:y * 2 ^ (min (Int.toNat (s:Int)) 64) % 18446744073709551616 = V) (eN1:V / 2 ^ (min (Int.toNat 32) 64) = n1) (eN0:V % 4294967296 = n0) (eH:h * 2 ^ (min (Int.toNat (s:Int)) 64) % 18446744073709551616 = H) (eL:l / 2 ^ (min (Int.toNat ((64 - s:Nat):Int)) 64) = L) (eU:H ||| L = U)
  (eW:l * 2 ^ (min (Int.toNat (s:Int)) 64) % 18446744073709551616 = w1) (eU1:w1 / 2 ^ (min (Int.toNat 32) 64) = u1) (eU0:w1 % 4294967296 = u0) (bV:V < 18446744073709551616) (bH:H < 18446744073709551616) (bL:L < 18446744073709551616) (bU:U < 18446744073709551616) (bW:w1 < 18446744073709551616)
  (eQ:U / n1 = q0) (eM:q0 * n1 % 18446744073709551616 = m0) (bM:m0 < 18446744073709551616) (eR:(U + 18446744073709551616 - m0) % 18446744073709551616 = r0) (f1:Hf n1 n0 U u1 q0 r0)
  (d1:∀ q r,Hf n1 n0 U u1 q r→(q < 4294967296∧q * n0 ≤ 4294967296 * r + u1)→q = Q1) (b1:∀ q r,Hf n1 n0 U u1 q r→¬ (q < 4294967296∧q * n0 ≤ 4294967296 * r + u1)→¬ r + n1 < 4294967296→q - 1 = Q1)
  (bQ1:Q1 < 4294967296) (eA:U * 4294967296 % 18446744073709551616 = a1) (eA2:Q1 * V % 18446744073709551616 = m2) (bM2:m2 < 18446744073709551616) (eU2:(a1 + u1 + 18446744073709551616 - m2) % 18446744073709551616 = U2) (bU2:U2 < 18446744073709551616)
  (eP:U2 / n1 = p0) (eT:p0 * n1 % 18446744073709551616 = t0) (bT:t0 < 18446744073709551616) (eS:(U2 + 18446744073709551616 - t0) % 18446744073709551616 = r2') (f2:Hf n1 n0 U2 u0 p0 r2')
  (d2:∀ q r,Hf n1 n0 U2 u0 q r→(q < 4294967296∧q * n0 ≤ 4294967296 * r + u0)→q = Q2) (b2:∀ q r,Hf n1 n0 U2 u0 q r→¬ (q < 4294967296∧q * n0 ≤ 4294967296 * r + u0)→¬ r + n1 < 4294967296→q - 1 = Q2)
  (bQ2:Q2 < 4294967296) (eB:U2 * 4294967296 % 18446744073709551616 = a2) (eB2:Q2 * V % 18446744073709551616 = m3) (bM3:m3 < 18446744073709551616) (eU3:(a2 + u0 + 18446744073709551616 - m3) % 18446744073709551616 = U3) (eR3:U3 / 2 ^ (min (Int.toNat (s:Int)) 64) = R) :
  Tr Tryz.prog 239 [Un h,Un l,Un y] [] [] fun v D=>v = .tuple #[Un (Q1 * 4294967296 + Q2),Un R]∧D = []:=by
 have n1a:=f1.n1a
 have n1b:=f1.n1b
 have n0b:=f1.n0b
 have u1b:=f1.u1b
 have u0b:=f2.u1b
 refine Tr.enter env _ Tryz.func239 (by kernel_rfl) rfl Tryz.ntmps239 rfl (by repeat (first | exact has00 | refine has01 ?_)) fun w0=>?_
 repeat' first|(refine gca ?_;first|(refine ca (LZ64_tr y hy) ?_;rintro _ _ ⟨rfl,rfl⟩;rw [hse]))|(refine ao ?_;first | refine nsle eV ?_ | refine nsre eN1 ?_ | refine nmke eN0 ?_ | refine nsle eH ?_ | refine nsre eL ?_ | refine nore eU ?_ | refine nsle eW ?_ | refine nsre eU1 ?_ | refine nmke eU0 ?_ | refine nque eQ ?_ | refine nmle eM ?_ | refine nsbe eR ?_)|refine sq_cutX (a:=.block 0 _) (ι:=Value) (fun v=>v = Un Q1) (fun v=>[(2,Un V),(8,Un s),(9,Un n1),(10,Un n0),(11,Un U),(13,Un u1),(14,Un u0),(15,v)]) (fun _=>[]) ?_ (fun kb=>?_)|(refine wo ?_;first|(refine ao ?_;first|(refine nao ?_;first|refine nsb ?_)|(refine naou ?_;first|refine nsb ?_)|refine oa ?_)|refine ntu ?_|refine oa ?_)|(refine gc ?_;first|(refine ci (fun hB=>?_) (fun hB=>?_) <;> try (exfalso;omega)))|refine sq ?_|refine rg ?_|refine xc ?_|refine nl ?_|refine sk ?_|refine bk ?_
 ·rintro _ rfl
  clear eV eN1 eN0 eH eL eU eW eU1 eU0 eQ eM eR f1 d1 b1 hse
  repeat' first|(refine ao ?_;first | refine nmle eA ?_ | refine nmle eA2 ?_ | refine nsbe eU2 ?_ | refine nque eP ?_ | refine nmle eT ?_ | refine nsbe eS ?_)|refine sq_cutX (a:=.block 2 _) (ι:=Value) (fun v=>v = Un Q2) (fun v=>[(2,Un V),(8,Un s),(17,Un U2),(14,Un u0),(15,Un Q1),(18,v)]) (fun _=>[]) ?_ (fun kb=>?_)|(refine wo ?_;first|(refine ao ?_;first|(refine nao ?_;first|refine nad ?_)|(refine naou ?_;first|refine nad ?_))|refine oa ?_)|refine sq ?_|refine rg ?_|refine xc ?_|refine nl ?_|refine bk ?_
  ·rintro _ rfl
   clear eA eA2 eU2 eP eT eS f2 d2 b2
   repeat' first|(refine ao ?_;first | refine nmle eB ?_ | refine nmle eB2 ?_ | refine nsbe eU3 ?_ | refine nsre eR3 ?_)|(refine wo ?_;first|(refine ao ?_;first|(refine nao ?_;first|refine nad ?_|refine nml ?_)|(refine naou ?_;first|refine nad ?_|refine nml ?_))|refine oa ?_)|refine sq ?_|refine rg ?_|refine xc ?_|refine nl ?_|refine rt ?_
   exact r2 ⟨rfl,rfl⟩
  ·clear eA eA2 eU2 eP eT eS eB eB2 eU3 eR3
   repeat' first|(refine wo ?_;first|(refine ao ?_;first|(refine nao ?_;first|refine nmk ?_|refine nad ?_|refine nsb ?_|refine nml ?_|refine nadm ?_|refine nsbm ?_|refine nmlm ?_|refine nor ?_|refine nsl ?_|refine nsr ?_|refine nqu ?_|refine nrm ?_)|(refine naou ?_;first|refine nmk ?_|refine nad ?_|refine nsb ?_|refine nml ?_|refine nadm ?_|refine nsbm ?_|refine nmlm ?_|refine nor ?_|refine nsl ?_|refine nsr ?_|refine nqu ?_|refine nrm ?_)|refine aw ?_|refine aw6 ?_|refine oa ?_|refine adiv ?_|refine amod ?_|refine shr1 ?_|refine shr ?_|refine umod ?_|refine isl ?_|refine ipe ?_|refine ipn ?_|refine ibe ?_)|refine lu ?_|refine sou ?_|refine ntu ?_|refine acw ?_|refine ucv ?_|refine anw ?_|refine oa ?_|refine ld ?_|refine ldl ?_|refine lnm ?_|refine ixmn ?_|refine ixm ?_|refine li ?_|refine lb ?_|refine lv ?_|refine ln ?_|refine ixn ?_|refine ix ?_|refine le ?_|refine sr ?_|refine soi ?_|refine sob ?_|refine scm ?_|refine sclm ?_|refine schm ?_|refine gy ?_|refine gn ?_|refine gnn ?_|refine gu ?_|(refine gsi (fun hB=>?_) (fun hB=>?_) <;> try (exfalso;omega))|(refine gsn (fun hB=>?_) (fun hB=>?_) <;> try (exfalso;omega))|(refine gs (fun hB=>?_) (fun hB=>?_) <;> try (exfalso;omega)))|(refine gc ?_;first|refine ct ?_|refine cf ?_|(refine ci (fun hB=>?_) (fun hB=>?_) <;> try (exfalso;omega))|(refine cn (fun hB=>?_) (fun hB=>?_) <;> try (exfalso;omega))|(refine cb (fun hB=>?_) (fun hB=>?_) <;> try (exfalso;omega)))|refine sq ?_|refine rg ?_|refine xc ?_|refine nl ?_|refine sk ?_|refine bk ?_|refine xe ?_|refine rt ?_|refine xb ?_
   refine TC.loop (ι:=Nat × Nat) (fun i=>[(18,Un i.1),(16,Un i.2)]) (fun _=>[]) (fun i=>Hf n1 n0 U2 u0 i.1 i.2) (fun i=>i.1) (p0,r2') [2,8,9,10,14,15,17] f2 ?_
   rintro ⟨q,r⟩ hI
   dsimp only at hI ⊢
   have hqn:=hI.mulb
   have hq0:1 ≤ q∨q * n0 = 0:=by
    rcases Nat.eq_zero_or_pos q with h | h
    ·exact .inr (by rw [h,Nat.zero_mul])
    ·exact .inl h
   have hr:=hI.r2
   have hq2:=hI.q2
   repeat' first|exact kb (Un q) (by rw [d2 q r hI (by omega)]) _ _ (by (repeat (refine Sub.cons rfl (by first | rfl | go_num) ?_));exact Sub.nil) fitA|exact kb (Un (q - 1)) (by rw [b2 q r hI (by omega) (by omega)]) _ _ (by (repeat (refine Sub.cons rfl (by first | rfl | go_num) ?_));exact Sub.nil) fitA|exact lp (q - 1,r + n1) (hI.next (by omega) (by omega)) (hlt:=by have:=hI.less (by omega);dsimp only;omega)|(refine wo ?_;first|(refine ao ?_;first|(refine nao ?_;first|refine nad ?_|refine nsb ?_|refine nml ?_)|(refine naou ?_;first|refine nad ?_|refine nsb ?_|refine nml ?_)|refine oa ?_)|refine oa ?_|refine gy ?_|refine gn ?_|(refine gsi (fun hB=>?_) (fun hB=>?_) <;> try (exfalso;omega)))|(refine gc ?_;first|refine ct ?_|(refine ci (fun hB=>?_) (fun hB=>?_) <;> try (exfalso;omega)))|refine sq ?_|refine rg ?_|refine xc ?_|refine nl ?_|refine sk ?_|refine bk ?_|refine xe ?_|refine xb ?_
 ·clear eV eN1 eN0 eH eL eU eW eU1 eU0 eQ eM eR eA eA2 eU2 eP eT eS f2 d2 b2 eB eB2 eU3 eR3 hse
  repeat' first|(refine wo ?_;first|(refine ao ?_;first|(refine nao ?_;first|refine nmk ?_|refine nad ?_|refine nsb ?_|refine nml ?_|refine nadm ?_|refine nsbm ?_|refine nmlm ?_|refine nor ?_|refine nsl ?_|refine nsr ?_|refine nqu ?_|refine nrm ?_)|(refine naou ?_;first|refine nmk ?_|refine nad ?_|refine nsb ?_|refine nml ?_|refine nadm ?_|refine nsbm ?_|refine nmlm ?_|refine nor ?_|refine nsl ?_|refine nsr ?_|refine nqu ?_|refine nrm ?_)|refine aw ?_|refine aw6 ?_|refine oa ?_|refine adiv ?_|refine amod ?_|refine shr1 ?_|refine shr ?_|refine umod ?_|refine isl ?_|refine ipe ?_|refine ipn ?_|refine ibe ?_)|refine lu ?_|refine sou ?_|refine ntu ?_|refine acw ?_|refine ucv ?_|refine anw ?_|refine oa ?_|refine ld ?_|refine ldl ?_|refine lnm ?_|refine ixmn ?_|refine ixm ?_|refine li ?_|refine lb ?_|refine lv ?_|refine ln ?_|refine ixn ?_|refine ix ?_|refine le ?_|refine sr ?_|refine soi ?_|refine sob ?_|refine scm ?_|refine sclm ?_|refine schm ?_|refine gy ?_|refine gn ?_|refine gnn ?_|refine gu ?_|(refine gsi (fun hB=>?_) (fun hB=>?_) <;> try (exfalso;omega))|(refine gsn (fun hB=>?_) (fun hB=>?_) <;> try (exfalso;omega))|(refine gs (fun hB=>?_) (fun hB=>?_) <;> try (exfalso;omega)))|(refine gc ?_;first|refine ct ?_|refine cf ?_|(refine ci (fun hB=>?_) (fun hB=>?_) <;> try (exfalso;omega))|(refine cn (fun hB=>?_) (fun hB=>?_) <;> try (exfalso;omega))|(refine cb (fun hB=>?_) (fun hB=>?_) <;> try (exfalso;omega)))|refine sq ?_|refine rg ?_|refine xc ?_|refine nl ?_|refine sk ?_|refine bk ?_|refine xe ?_|refine rt ?_|refine xb ?_
  refine TC.loop (ι:=Nat × Nat) (fun i=>[(15,Un i.1),(16,Un i.2)]) (fun _=>[]) (fun i=>Hf n1 n0 U u1 i.1 i.2) (fun i=>i.1) (q0,r0) [2,8,9,10,11,13,14] f1 ?_
  rintro ⟨q,r⟩ hI
  dsimp only at hI ⊢
  have hqn:=hI.mulb
  have hq0:1 ≤ q∨q * n0 = 0:=by
   rcases Nat.eq_zero_or_pos q with h | h
   ·exact .inr (by rw [h,Nat.zero_mul])
   ·exact .inl h
  have hr:=hI.r2
  have hq2:=hI.q2
  repeat' first|exact kb (Un q) (by rw [d1 q r hI (by omega)]) _ _ (by (repeat (refine Sub.cons rfl (by first | rfl | go_num) ?_));exact Sub.nil) fitA|exact kb (Un (q - 1)) (by rw [b1 q r hI (by omega) (by omega)]) _ _ (by (repeat (refine Sub.cons rfl (by first | rfl | go_num) ?_));exact Sub.nil) fitA|exact lp (q - 1,r + n1) (hI.next (by omega) (by omega)) (hlt:=by have:=hI.less (by omega);dsimp only;omega)|(refine wo ?_;first|(refine ao ?_;first|(refine nao ?_;first|refine nad ?_|refine nsb ?_|refine nml ?_)|(refine naou ?_;first|refine nad ?_|refine nsb ?_|refine nml ?_)|refine oa ?_)|refine oa ?_|refine gy ?_|refine gn ?_|(refine gsi (fun hB=>?_) (fun hB=>?_) <;> try (exfalso;omega)))|(refine gc ?_;first|refine ct ?_|(refine ci (fun hB=>?_) (fun hB=>?_) <;> try (exfalso;omega)))|refine sq ?_|refine rg ?_|refine xc ?_|refine nl ?_|refine sk ?_|refine bk ?_|refine xe ?_|refine xb ?_
end Go.Art
namespace Go.Art
open Go Go.Proofs Go.RowKit
theorem sub_word {u z r:Nat} (h:z + r = u) (hu:u < 18446744073709551616):(u + 18446744073709551616 - z) % 18446744073709551616 = r:=by omega
theorem two_word {u u1 z r:Nat} (h:z + r = u * 4294967296 + u1) (hr:r < 18446744073709551616):(u * 4294967296 % 18446744073709551616 + u1 + 18446744073709551616 - z % 18446744073709551616) % 18446744073709551616 = r:=by omega
theorem half_facts {n1 n0 u u1:Nat} (n1a:2147483648 ≤ n1) (n1b:n1 < 4294967296) (n0b:n0 < 4294967296) (u1b:u1 < 4294967296) (ub:u < n1 * 4294967296 + n0) :
  ∃ q0 r0 m0 Q a m U2,u / n1 = q0∧q0 * n1 % 18446744073709551616 = m0∧m0 < 18446744073709551616∧(u + 18446744073709551616 - m0) % 18446744073709551616 = r0∧Hf n1 n0 u u1 q0 r0 ∧
   (∀ q r,Hf n1 n0 u u1 q r→(q < 4294967296∧q * n0 ≤ 4294967296 * r + u1)→q = Q)∧(∀ q r,Hf n1 n0 u u1 q r→¬ (q < 4294967296∧q * n0 ≤ 4294967296 * r + u1)→¬ r + n1 < 4294967296→q - 1 = Q) ∧
   Q < 4294967296∧u * 4294967296 % 18446744073709551616 = a∧Q * (n1 * 4294967296 + n0) % 18446744073709551616 = m∧m < 18446744073709551616∧(a + u1 + 18446744073709551616 - m) % 18446744073709551616 = U2∧U2 < n1 * 4294967296 + n0 ∧
   Q = (u * 4294967296 + u1) / (n1 * 4294967296 + n0)∧U2 = (u * 4294967296 + u1) % (n1 * 4294967296 + n0):=by
 have hV0:0 < n1 * 4294967296 + n0:=by omega
 have hV:n1 * 4294967296 + n0 < 18446744073709551616:=by omega
 have hm:=Nat.div_mul_le_self u n1
 have hmb:u / n1 * n1 < 18446744073709551616:=Nat.lt_of_le_of_lt hm (by omega)
 have hdm:=Nat.div_add_mod (u * 4294967296 + u1) (n1 * 4294967296 + n0)
 have hml:=Nat.mod_lt (u * 4294967296 + u1) hV0
 refine ⟨_,_,_,(u * 4294967296 + u1) / (n1 * 4294967296 + n0),_,_,(u * 4294967296 + u1) % (n1 * 4294967296 + n0),rfl,Nat.mod_eq_of_lt hmb,hmb,rfl,?_,fun q r hf hc=>hf.done hc,fun q r hf hc hr=>hf.brk hc hr,Hf.qlt u1b ub,rfl,rfl,Nat.mod_lt _ (by decide),?_,hml,rfl,rfl⟩
 ·rw [sub_word (r:=u % n1) (by rw [Nat.mul_comm];exact Nat.div_add_mod u n1) (by omega)]
  exact Hf.first n1a n1b n0b u1b ub
 ·rw [Nat.mul_comm] at hdm
  exact two_word hdm (by omega)
theorem Div64_tr (h l y:Nat) (hl:l < 18446744073709551616) (hy:y < 18446744073709551616) (hh:h < y):Tr Tryz.prog 239 [Un h,Un l,Un y] [] [] fun v D=>v = div64 h l y∧D = []:=by
 by_cases h0:h = 0
 ·subst h0
  unfold div64
  rw [Nat.zero_mul,Nat.zero_add]
  exact Div64_low l y hl hy hh
 ·obtain ⟨s,hs,hse,hV1,hV2⟩:=lz_ex y hy (by omega)
  obtain ⟨g1,g2,g3,g4⟩:=d64 hs hl hh hV2
  have es:min (Int.toNat (s:Int)) 64 = s:=by rw [Int.toNat_natCast];exact Nat.min_eq_left (by omega)
  have es2:min (Int.toNat ((64 - s:Nat):Int)) 64 = 64 - s:=by rw [Int.toNat_natCast];exact Nat.min_eq_left (by omega)
  have hor:h * 2 ^ s ||| l / 2 ^ (64 - s) = h * 2 ^ s + l / 2 ^ (64 - s):=by rw [Nat.mul_comm h];exact or_add g2
  have hdu:=div_up (a:=h * 18446744073709551616 + l) (y:=y) (p:=2 ^ s) (Nat.pow_pos (by decide))
  have hsp:=pow_split (s:=s) (by omega)
  have hLb:l / 2 ^ (64 - s) < 18446744073709551616:=Nat.lt_of_le_of_lt (Nat.div_le_self _ _) hl
  have hVb:y * 2 ^ s = y * 2 ^ s / 4294967296 * 4294967296 + y * 2 ^ s % 4294967296:=by omega
  obtain ⟨q0,r0,m0,Q1,a1,m2,U2,A1,A2,A3,A4,A5,A6,A7,A8,A9,A10,A11,A12,A13,A14,A15⟩:=half_facts (n1:=y * 2 ^ s / 4294967296) (n0:=y * 2 ^ s % 4294967296) (u:=h * 2 ^ s + l / 2 ^ (64 - s)) (u1:=l * 2 ^ s % 18446744073709551616 / 4294967296) (by omega) (by omega) (by omega) (by omega) (by rw [← hVb];exact g3)
  obtain ⟨p0,r2',t0,Q2,a2,m3,U3,B1,B2,B3,B4,B5,B6,B7,B8,B9,B10,B11,B12,B13,B14,B15⟩:=half_facts (n1:=y * 2 ^ s / 4294967296) (n0:=y * 2 ^ s % 4294967296) (u:=U2) (u1:=l * 2 ^ s % 18446744073709551616 % 4294967296) (by omega) (by omega) (by omega) (by omega) A13
  rw [← hVb] at A10 A13 A14 A15 B10 B13 B14 B15
  have hD:=div_one (V:=y * 2 ^ s) (a:=(h * 2 ^ s + l / 2 ^ (64 - s)) * 4294967296 + l * 2 ^ s % 18446744073709551616 / 4294967296) (u0:=l * 2 ^ s % 18446744073709551616 % 4294967296) (by omega)
  rw [← A14,← A15] at hD
  rw [← B14,← B15] at hD
  have hN:((h * 2 ^ s + l / 2 ^ (64 - s)) * 4294967296 + l * 2 ^ s % 18446744073709551616 / 4294967296) * 4294967296 + l * 2 ^ s % 18446744073709551616 % 4294967296 = (h * 18446744073709551616 + l) * 2 ^ s:=by rw [g4];omega
  rw [hN,hdu.1,hdu.2] at hD
  have hw:=Div64_walk h l y s (y * 2 ^ s) (h * 2 ^ s) (l / 2 ^ (64 - s)) (h * 2 ^ s + l / 2 ^ (64 - s)) (l * 2 ^ s % 18446744073709551616) (y * 2 ^ s / 4294967296) (y * 2 ^ s % 4294967296) (l * 2 ^ s % 18446744073709551616 / 4294967296) (l * 2 ^ s % 18446744073709551616 % 4294967296)
   q0 r0 m0 Q1 a1 U2 p0 t0 r2' m2 m3 Q2 a2 U3 ((h * 18446744073709551616 + l) % y) h0 hs hl hy hh hse (by rw [es];exact Nat.mod_eq_of_lt hV2) rfl rfl (by rw [es];exact Nat.mod_eq_of_lt g1) (by rw [es2]) hor (by rw [es]) rfl rfl hV2 g1 hLb (by omega) (Nat.mod_lt _ (by decide))
   A1 A2 A3 A4 A5 A6 A7 A8 A9 A10 A11 A12 (by omega) B1 B2 B3 B4 B5 B6 B7 B8 B9 B10 B11 B12 (by rw [es,← hD.2];exact Nat.mul_div_cancel _ (Nat.pow_pos (by decide)))
  rw [← hD.1] at hw
  exact hw
open Go Go.Proofs Go.RowKit
section
variable {P:Program} {E:Env P} {n:Sh} {X:Cx} {s:List K} {fr:Fr} {A A':List Ch} {ops:Array Oper} {rest:List Oper} {d:Nat} {ty t t':TypeId} {pos:String} {after:Array Edge} {x y:Operand} {m q r:Int} {a b z:Nat} {k':IntKind} {c:Int} {o:Op} {u v:Value} {fuel:Nat} {listed:Array Bool} {S:World→Prop}
theorem tke (i:Nat) (he:u = v) (hv:∀ w,S w→OpV P n fr o ty w u w) (k:TS E n X s S ops fuel (listed.setIfInBounds i true) ((d,v) :: fr) A) (hi:ops[i]? = some ⟨some d,o,ty,pos,after,none⟩:=by rfl) (hs:Region.noSelect ops = true:=by kernel_rfl) (hf:Region.free .any ops listed i = true:=by kernel_rfl)
  (hr:(Region.ready .any ops listed).contains i = true:=by kernel_rfl) (hrd:n.r = none:=by rfl) (hd:Nat.blt d n.n = true:=by rfl) (hab:∀ w ρ,(⟨some d,o,ty,pos,after,none⟩ : Oper).about P w ρ = none:=by exact fun _ _=>rfl):TS E n X s S ops (fuel + 1) listed fr A:=by
 subst he;exact tk i hv k hi hs hf hr hrd hd hab
theorem adive (he:m / q = r) (k:TO E n X s ops rest ((d,I r) :: fr) A) (hx:ev fr x = some (I m):=by rfl) (hy:ev fr y = some (I q):=by rfl) (hb:0 ≤ m∧m ≤ 9223372036854775807∧1 ≤ q:=by omega) (hd:Nat.blt d n.n = true:=by rfl):TO E n X s ops (⟨some d,.binOp .quo t x y t',ty,pos,after,none⟩ :: rest) fr A:=adiv (by rw [he];exact k) hx hy hb hd
theorem qamode (he:m % q = r) (k:TQ E n X s ops rest ((d,I r) :: fr) A) (hx:ev fr x = some (I m):=by rfl) (hy:ev fr y = some (I q):=by rfl) (hb:0 ≤ m∧q ≠ 0:=by omega) (hd:Nat.blt d n.n = true:=by rfl):TQ E n X s ops (⟨some d,.binOp .rem t x y t',ty,pos,after,none⟩ :: rest) fr A:=TQ.val (fun _ _=>by rw [← he];exact R_rem64 hx hy hb) k hd
theorem qnsre (he:a / 2 ^ (min c.toNat 64) = z) (k:TQ E n X s ops rest ((d,Un z) :: fr) A) (hx:ev fr x = some (Un a):=by rfl) (hy:ev fr y = some (.int k' c):=by rfl) (hc:0 ≤ c:=by omega) (hd:Nat.blt d n.n = true:=by rfl):TQ E n X s ops (⟨some d,.binOp .shr t x y t',ty,pos,after,none⟩ :: rest) fr A:=qnsr (by rw [he];exact k) hx hy hc hd
theorem qnsle (he:a * 2 ^ (min c.toNat 64) % 18446744073709551616 = z) (k:TQ E n X s ops rest ((d,Un z) :: fr) A) (hx:ev fr x = some (Un a):=by rfl) (hy:ev fr y = some (.int k' c):=by rfl) (hc:0 ≤ c:=by omega) (hd:Nat.blt d n.n = true:=by rfl):TQ E n X s ops (⟨some d,.binOp .shl t x y t',ty,pos,after,none⟩ :: rest) fr A:=qnsl (by rw [he];exact k) hx hy hc hd
end
theorem min_s {s:Nat} (hs:s ≤ 64):min (Int.toNat (s:Int)) 64 = s:=by rw [Int.toNat_natCast];exact Nat.min_eq_left hs
theorem min_63 {s:Nat} (hs:s ≤ 63):min (Int.toNat (63 - (s:Int))) 64 = 63 - s:=by rw [show (63 - (s:Int)).toNat = 63 - s by omega];exact Nat.min_eq_left (by omega)
theorem pow63 {s:Nat} (hs:s ≤ 63):2 * 2 ^ (63 - s) = 2 ^ (64 - s):=by rw [Nat.mul_comm,← Nat.pow_succ];congr 1;omega
theorem down_step {p L M x d y c0 g:Nat} (h:L * g + c0 = M + p * (x % g)) (hy:y * g = x - x % g + d % g * 18446744073709551616):(L + p * y) * g + c0 = M + p * x + p * 18446744073709551616 * (d % g):=by
 have h1:=Nat.mod_le x g
 have h2:=congrArg (p * ·) hy
 simp only [Nat.mul_add,Nat.mul_sub] at h2
 have h3:=Nat.mul_le_mul_left p h1
 rw [Nat.add_mul,Nat.mul_assoc p y g,h2,show p * 18446744073709551616 * (d % g) = p * (d % g * 18446744073709551616) by ac_rfl]
 omega
theorem up_step {Q L M p g x h lo hi:Nat} (hI:L + Q * h = M * g) (hx:x * g = hi * 18446744073709551616 + lo) (hp:Q = p):L + Q * (h + lo) + Q * 18446744073709551616 * hi = (M + p * x) * g:=by
 subst hp
 have:=congrArg (Q * ·) hx
 simp only [Nat.mul_add] at this
 rw [Nat.add_mul,← hI,Nat.mul_assoc Q x g,this,Nat.mul_add,show Q * 18446744073709551616 * hi = Q * (hi * 18446744073709551616) by ac_rfl]
 omega
attribute [local irreducible] Fit pt own ro vw mpc lpt vels rels mow lrc dfr
theorem drop_all {l:List Nat} (ht:Tm l) {k:Nat} (h1:k ≤ l.length) (h2:nv (l.drop k) = 0):k = l.length:=by
 rcases Nat.lt_or_ge k l.length with h | h
 ·have h3:=ht.top (by omega)
  refine absurd (nv_zero h2 _ ?_) h3
  rw [List.getD_eq_getElem?_getD,List.getElem?_eq_getElem (by omega)]
  rw [List.mem_iff_getElem]
  refine ⟨l.length - 1 - k,by rw [List.length_drop];omega,?_⟩
  rw [List.getElem_drop]
  simp only [show k + (l.length - 1 - k) = l.length - 1 by omega]
  rfl
 ·omega
theorem trimC_tr (v:Value) (l:List Nat) (ht:Tm l):Tr Tryz.prog 185 [v] [vw v (Us l)] [] fun u D=>u = v∧D = []:=
 ⟨fun w hw=>((trimmed_tr v l).run w hw).mono fun u w' ⟨B,⟨⟨k,h1,hu,h2,_⟩,hB⟩,hr⟩=>⟨B,⟨by
  have:=slSub_all (vw_sl (hw.h (vw v (Us l)) (List.Mem.head _)))
  rw [Us_len] at this
  rw [hu,drop_all ht h1 h2,this],hB⟩,hr⟩,(trimmed_tr v l).lent⟩
theorem NDown_tr (v1:Value) (l:List Nat) (s:Nat) (hs:s ≤ 63) (hd:Dg l) (hl:l.length ≤ 1099511627776):Tr Tryz.prog 255 [v1,I s] [vw v1 (Us l)] [] fun u D=>∃ o,u = tup2 o (I 0)∧o.oneCell' = true∧D = [own T64 o (Us (dg (nv l / 2 ^ s)))]:=by
 have e64:(s:Int) / 64 = 0:=by omega
 have em:(s:Int) % 64 = s:=by omega
 have es:=min_s (s:=s) (by omega)
 have hmx:max (0:Int) ((l.length:Int) - 0) = l.length:=by omega
 have hsp:=pow_split (s:=s) (by omega)
 have hg:0 < 2 ^ s:=Nat.pow_pos (by decide)
 have hg2:0 < 2 ^ (64 - s):=Nat.pow_pos (by decide)
 refine Tr.enter env _ Tryz.func255 (by kernel_rfl) rfl Tryz.ntmps255 rfl (by repeat (first | exact has00 | refine has01 ?_)) fun w0=>?_
 repeat' first|(refine gca ?_;first|(refine ca (room_tr (l.length:Int) (by omega)) ?_;rintro o _ ⟨ho,rfl⟩))|refine adive e64 ?_|(refine mxx ?_;rw [hmx])|(refine wo ?_;first|(refine ao ?_;first|refine aw ?_|refine oa ?_)|refine oa ?_|refine lnm ?_|refine gy ?_)|(refine gc ?_;first|(refine ci (fun hB=>?_) (fun hB=>?_) <;> try (exfalso;omega)))|refine sq ?_|refine rg ?_|refine xc ?_|refine nl ?_|refine sk ?_|refine bk ?_
 rw [Int.toNat_natCast,show ((List.replicate l.length 0).length) = l.length from List.length_replicate ..]
 refine TC.loop (ι:=Nat × List Nat) (fun k=>[(23,I k.1)]) (fun k=>[own T64 o (Us k.2)]) (fun k=>k.2.length = l.length∧k.1 ≤ l.length∧Dg k.2∧nv (k.2.take k.1) * 2 ^ s + l.getD 0 0 % 2 ^ s = nv (l.take k.1) + 18446744073709551616 ^ k.1 * (l.getD k.1 0 % 2 ^ s)) (fun k=>l.length - k.1) (0,List.replicate l.length 0) [0,1,6,22] ⟨by simp,by simp,Dg.rep _,by simp [nv]⟩ ?_
 rintro ⟨i,ys⟩ ⟨h1,h2,hdy,hI⟩
 dsimp only at h1 h2 hdy hI ⊢
 by_cases hi:i < l.length
 ·obtain ⟨d1,e1⟩ : ∃ d1,l.getD (i + 1) 0 * 2 ^ (min (Int.toNat 1) 64) % 18446744073709551616 = d1:=⟨_,rfl⟩
  obtain ⟨d2,hd2⟩ : ∃ d2,d2 = l.getD (i + 1) 0 % 2 ^ s * 2 ^ (64 - s):=⟨_,rfl⟩
  have e2:d1 * 2 ^ (min (Int.toNat (63 - (s:Int))) 64) % 18446744073709551616 = d2:=by
   rw [min_63 hs,← e1,hd2,Nat.mod_mul_mod,Nat.mul_assoc,show 2 ^ (min (Int.toNat 1) 64) * 2 ^ (63 - s) = 2 ^ (64 - s) from pow63 hs,← hsp,Nat.mul_comm (2 ^ (64 - s)) (2 ^ s)]
   exact Nat.mul_mod_mul_right _ _ _
  have hx:=hd.getD i
  have hdl:l.getD (i + 1) 0 % 2 ^ s < 2 ^ s:=Nat.mod_lt _ hg
  have b1:l.getD i 0 / 2 ^ s < 18446744073709551616:=Nat.lt_of_le_of_lt (Nat.div_le_self _ _) hx
  have b1':l.getD i 0 / 2 ^ s < 2 ^ (64 - s):=Nat.div_lt_of_lt_mul (by rw [Nat.mul_comm,hsp];exact hx)
  have b2:d2 < 18446744073709551616:=by rw [hd2,← hsp,Nat.mul_comm (2 ^ (64 - s))];exact Nat.mul_lt_mul_of_pos_right hdl hg2
  have b3:d2 + 2 ^ (64 - s) ≤ 18446744073709551616:=by
   have:=Nat.mul_le_mul_right (2 ^ (64 - s)) hdl
   rw [Nat.succ_mul,Nat.mul_comm (2 ^ s),hsp] at this
   rw [hd2];exact this
  obtain ⟨y,hy⟩ : ∃ y,y = l.getD i 0 / 2 ^ s + d2:=⟨_,rfl⟩
  have e3:l.getD i 0 / 2 ^ s ||| d2 = y:=by
   rw [hy,Nat.or_comm,hd2,Nat.mul_comm _ (2 ^ (64 - s)),or_add b1'];exact Nat.add_comm _ _
  have by_:y < 18446744073709551616:=by omega
  have hyg:y * 2 ^ s = l.getD i 0 - l.getD i 0 % 2 ^ s + l.getD (i + 1) 0 % 2 ^ s * 18446744073709551616:=by
   have h1:=Nat.div_add_mod (l.getD i 0) (2 ^ s)
   rw [hy,Nat.add_mul,hd2,Nat.mul_assoc,hsp,Nat.mul_comm (l.getD i 0 / 2 ^ s)]
   omega
  have hs2:=down_step hI hyg
  rw [← nv_take_s,← Nat.pow_succ] at hs2
  clear hI hyg hy hd2 b3 b1' hdl
  repeat' first|refine rs (fun w=>Sl w v1 (Us l)) ?_ (fun w hw=>vw_sl (hw.h (vw v1 (Us l)) memA))|(refine wo ?_;first|(refine ao ?_;first|refine oa ?_)|refine oa ?_)|(refine gc ?_;first|(refine ci (fun hB=>?_) (fun hB=>?_) <;> try (exfalso;omega)))|refine sq ?_|refine rg ?_|refine xc ?_|refine nl ?_|refine sk ?_|refine bk ?_
  refine tka 0 ?_
  refine tka 1 ?_
  refine tka 2 ?_
  refine tka 3 ?_
  refine tke 4 (v:=I 0) (by rw [e64]) (fun w _=>R_quo64 (m:=(s:Int)) (q:=64) rfl rfl (by omega)) ?_
  refine tka 5 ?_
  refine tkw 6 (i:Int) ?_
  refine tk 7 (v:=.pointer (some (addrAt v1 i))) (fun w h=>R_idx (E:=env) (i:=(i:Int)) rfl rfl rfl rfl h ⟨Int.natCast_nonneg i,by rw [Us_len];omega⟩) ?_
  refine tk 8 (v:=Un (l.getD i 0)) (fun w h=>R_load (E:=env) rfl rfl rfl (h.cell (Us_get l i hi))) ?_
  refine tka 9 ?_
  refine tke 10 (v:=I s) (by rw [em]) (fun w _=>R_rem64 (m:=(s:Int)) (q:=64) rfl rfl (by omega)) ?_
  refine tke 11 (v:=Un (l.getD i 0 / 2 ^ s)) (by rw [es]) (fun w _=>R_nshr (a:=l.getD i 0) (c:=(s:Int)) rfl rfl (by omega)) ?_
  refine tka 12 ?_
  refine tka 13 ?_
  refine tke 14 (v:=I 0) (by rw [e64]) (fun w _=>R_quo64 (m:=(s:Int)) (q:=64) rfl rfl (by omega)) ?_
  refine tka 15 ?_
  refine tkw 16 (i:Int) ?_
  refine tkw 17 ((i:Int) + 1) ?_
  refine tka 20 ?_
  refine tke 21 (v:=I s) (by rw [em]) (fun w _=>R_rem64 (m:=(s:Int)) (q:=64) rfl rfl (by omega)) ?_
  refine tkw 22 (63 - (s:Int)) ?_
  refine t1 18 ?_
  refine ca (digitN_tr v1 l (i + 1)) ?_
  rintro _ _ ⟨rfl,rfl⟩
  refine nl ?_
  refine te (fun w hw=>vw_sl (hw.h (vw v1 (Us l)) memA)) ?_
  refine tke 19 (v:=Un d1) (by rw [e1]) (fun w _=>R_nshl (a:=l.getD (i + 1) 0) (c:=1) rfl rfl (by decide)) ?_
  refine tke 23 (v:=Un d2) (by rw [e2]) (fun w _=>R_nshl (a:=d1) (c:=63 - (s:Int)) rfl rfl (by omega)) ?_
  refine tke 24 (v:=Un y) (by rw [e3]) (fun w _=>R_nor (a:=l.getD i 0 / 2 ^ s) (b:=d2) rfl rfl b1 b2) ?_
  refine t1 25 ?_
  refine ixmn ?_
  refine nl ?_
  refine te (fun w hw=>vw_sl (hw.h (vw v1 (Us l)) memA)) ?_
  refine t1 26 ?_
  refine sou ?_
  refine nl ?_
  refine te (fun w hw=>vw_sl (hw.h (vw v1 (Us l)) memA)) ?_
  refine t0 ?_
  repeat' first|(refine wo ?_;first|(refine ao ?_;first|refine aw ?_)|refine oa ?_)|refine rg ?_|refine xc ?_|refine nl ?_|refine xb ?_
  exact lp (i + 1,ys.set i y) ⟨by dsimp only;rw [List.length_set];exact h1,by dsimp only;omega,hdy.set by_,by dsimp only;rw [nv_set_take _ _ _ (by omega)];exact hs2⟩
 ·obtain rfl:i = l.length:=by omega
  have hn:nv ys = nv l / 2 ^ s:=by
   rw [nv_take_all (by omega),nv_take_all (Nat.le_refl _),getD_over (Nat.le_refl _),Nat.zero_mod,Nat.mul_zero,Nat.add_zero] at hI
   rw [← hI,Nat.add_comm,Nat.add_mul_div_right _ _ hg,Nat.div_eq_of_lt (Nat.mod_lt _ hg),Nat.zero_add]
  rw [← hn]
  repeat' first|(refine gca ?_;first|(refine ca (trimmed_tr o ys) ?_;rintro _ _ ⟨⟨k,g1,rfl,g2,g3⟩,rfl⟩;refine TO.im (trim_own o ys hdy g1 g2 g3 _) ?_)|(refine ca (NClip_tr _ _) ?_;rintro u _ ⟨hu,rfl⟩))|(refine wo ?_;first|(refine ao ?_;first|refine oa ?_)|refine oa ?_)|(refine gc ?_;first|(refine ci (fun hB=>?_) (fun hB=>?_) <;> try (exfalso;omega)))|refine sq ?_|refine rg ?_|refine xc ?_|refine nl ?_|refine xe ?_|refine rt ?_
  exact r2 ⟨u,rfl,hu,rfl⟩
theorem NUp_tr (v1:Value) (n:Nat) (s:Nat) (hs:s ≤ 63) (hn:n ≠ 0) (hl:(dg n).length ≤ 1099511627776):Tr Tryz.prog 253 [v1,I s] [vw v1 (Us (dg n))] [] fun u D=>∃ o,u = tup2 o (I 0)∧o.oneCell' = true∧D = [own T64 o (Us (dg (n * 2 ^ s)))]:=by
 have e64:(s:Int) / 64 = 0:=by omega
 have em:(s:Int) % 64 = s:=by omega
 have es:=min_s (s:=s) (by omega)
 have hsp:=pow_split (s:=s) (by omega)
 have hg:0 < 2 ^ s:=Nat.pow_pos (by decide)
 have hg2:0 < 2 ^ (64 - s):=Nat.pow_pos (by decide)
 obtain ⟨l,hl2⟩ : ∃ l,l = dg n:=⟨_,rfl⟩
 have hd:Dg l:=by rw [hl2];exact Dg_dg n
 have ht:Tm l:=by rw [hl2];exact Tm_dg n
 have hnv:nv l = n:=by rw [hl2,nv_dg]
 have hl0:l ≠ []:=by rw [hl2];exact fun h=>hn (dg_nil.1 h)
 rw [← hl2] at hl ⊢
 rw [← hnv]
 clear hl2 hn hnv n
 have hlp:0 < l.length:=List.length_pos_iff.2 hl0
 refine Tr.enter env _ Tryz.func253 (by kernel_rfl) rfl Tryz.ntmps253 rfl (by repeat (first | exact has00 | refine has01 ?_)) fun w0=>?_
 repeat' first|(refine gca ?_;first|(refine ca (trimC_tr v1 l ht) ?_;rintro _ _ ⟨rfl,rfl⟩)|(refine ca (room_tr ((l.length:Int) + 1) (by omega)) ?_;rintro o _ ⟨ho,rfl⟩))|refine adive e64 ?_|(refine aw ?_;rw [show (0:Int) + (l.length:Int) = (l.length:Int) from Int.zero_add _])|(refine wo ?_;first|(refine ao ?_;first|refine aw ?_|refine oa ?_)|refine oa ?_|refine lnm ?_|refine gy ?_)|(refine gc ?_;first|(refine ci (fun hB=>?_) (fun hB=>?_) <;> try (exfalso;omega)))|refine sq ?_|refine rg ?_|refine xc ?_|refine nl ?_|refine sk ?_|refine bk ?_
 rw [show ((l.length:Int) + 1).toNat = l.length + 1 by omega]
 refine TC.loop (ι:=Nat × List Nat) (fun k=>[(31,I k.1)]) (fun k=>[own T64 o (Us k.2)]) (fun k=>k.2.length = l.length + 1∧k.1 ≤ l.length∧Dg k.2∧k.2.getD k.1 0 < 2 ^ s∧nv (k.2.take (k.1 + 1)) = nv (l.take k.1) * 2 ^ s) (fun k=>l.length - k.1) (0,List.replicate (l.length + 1) 0) [0,1,6,29,30] ⟨by simp,by simp,Dg.rep _,by simpa using hg,by simp [nv]⟩ ?_
 rintro ⟨i,ys⟩ ⟨h1,h2,hdy,hh,hI⟩
 dsimp only at h1 h2 hdy hh hI ⊢
 by_cases hi:i < l.length
 ·obtain ⟨xh,e1⟩ : ∃ xh,l.getD i 0 / 2 ^ (min (Int.toNat 1) 64) = xh:=⟨_,rfl⟩
  obtain ⟨hi',e2⟩ : ∃ hi',xh / 2 ^ (min (Int.toNat (63 - (s:Int))) 64) = hi':=⟨_,rfl⟩
  obtain ⟨lo,e3⟩ : ∃ lo,l.getD i 0 * 2 ^ (min (Int.toNat (s:Int)) 64) % 18446744073709551616 = lo:=⟨_,rfl⟩
  have hx:=hd.getD i
  have f2:hi' = l.getD i 0 / 2 ^ (64 - s):=by
   rw [← e2,← e1,min_63 hs,Nat.div_div_eq_div_mul,show 2 ^ (min (Int.toNat 1) 64) * 2 ^ (63 - s) = 2 ^ (64 - s) from pow63 hs]
  have f3:lo = l.getD i 0 * 2 ^ s % 18446744073709551616:=by rw [← e3,es]
  have f4:l.getD i 0 * 2 ^ s = hi' * 18446744073709551616 + lo:=by
   rw [f3,f2,← Nat.mul_div_mul_right (l.getD i 0) (2 ^ (64 - s)) hg,hsp,Nat.mul_comm (_ / _)]
   exact (Nat.div_add_mod _ _).symm
  have f5:hi' < 2 ^ s:=by rw [f2];exact Nat.div_lt_of_lt_mul (by rw [hsp];exact hx)
  have f6:lo < 18446744073709551616:=by rw [f3];exact Nat.mod_lt _ (by decide)
  obtain ⟨m,f7⟩ : ∃ m,lo = 2 ^ s * m:=⟨l.getD i 0 % 2 ^ (64 - s),by
   rw [f3,← hsp,Nat.mul_mod_mul_right,Nat.mul_comm]⟩
  have f8:ys.getD i 0 ||| lo = ys.getD i 0 + lo:=by
   rw [Nat.or_comm,f7,or_add hh];exact Nat.add_comm _ _
  have f9:ys.getD i 0 + lo < 18446744073709551616:=by
   have h4:m < 2 ^ (64 - s):=Nat.lt_of_mul_lt_mul_left (a:=2 ^ s) (by rw [← f7,Nat.mul_comm,hsp];exact f6)
   have h5:=Nat.mul_le_mul_left (2 ^ s) h4
   rw [Nat.mul_comm (2 ^ s) (2 ^ (64 - s)),hsp,Nat.mul_succ,← f7] at h5
   omega
  have f10:hi' < 18446744073709551616:=by
   have:2 ^ s ≤ 2 ^ 63:=Nat.pow_le_pow_right (by decide) hs
   omega
  have hyi:=hdy.getD i
  have hJ:nv (ys.take i) + 18446744073709551616 ^ i * ys.getD i 0 = nv (l.take i) * 2 ^ s:=by rw [← nv_take_s];exact hI
  have hK:=up_step hJ f4 rfl
  rw [← nv_take_s l i] at hK
  have hL:nv (((ys.set i (ys.getD i 0 + lo)).set (i + 1) hi').take (i + 1 + 1)) = nv (l.take (i + 1)) * 2 ^ s:=by
   rw [nv_set_take _ _ _ (by rw [List.length_set];omega),nv_set_take _ _ _ (by omega),Nat.pow_succ];exact hK
  have hM:((ys.set i (ys.getD i 0 + lo)).set (i + 1) hi').getD (i + 1) 0 < 2 ^ s:=by rw [getD_setN _ _ _ (by rw [List.length_set];omega)];exact f5
  have hsl:(ys.set i (ys.getD i 0 + lo)).length = l.length + 1:=by rw [List.length_set];exact h1
  clear hJ hK f4 f3 f7 f2 hI
  repeat' first|(refine aw ?_;rw [show (i:Int) + 1 = ((i + 1:Nat):Int) from rfl])|(refine aw ?_;rw [show (0:Int) + (i:Int) = (i:Int) from Int.zero_add _])|refine adive e64 ?_|refine qamode em ?_|refine qnsre e1 ?_|refine qnsre e2 ?_|refine qnsle e3 ?_|refine nore f8 ?_|(refine wo ?_;first|(refine ao ?_;first|refine oa ?_)|refine lu ?_|refine sou ?_|refine oa ?_|refine ixmn ?_)|(refine gc ?_;first|(refine ci (fun hB=>?_) (fun hB=>?_) <;> try (exfalso;omega)))|refine sq ?_|refine rg ?_|refine xc ?_|refine nl ?_|refine sk ?_|refine bk ?_|refine xb ?_|refine rq ?_|refine nq ?_|(refine wq ?_;first|(refine qao ?_;first|refine qaw ?_)|refine qa ?_)
  exact lp (i + 1,(ys.set i (ys.getD i 0 + lo)).set (i + 1) hi') ⟨by dsimp only;rw [List.length_set];exact hsl,by dsimp only;omega,(hdy.set f9).set f10,hM,hL⟩
 ·obtain rfl:i = l.length:=by omega
  have hn:nv ys = nv l * 2 ^ s:=by
   rw [nv_take_all (by omega),nv_take_all (Nat.le_refl _)] at hI
   exact hI
  rw [← hn]
  repeat' first|(refine gca ?_;first|(refine ca (trimmed_tr o ys) ?_;rintro _ _ ⟨⟨k,g1,rfl,g2,g3⟩,rfl⟩;refine TO.im (trim_own o ys hdy g1 g2 g3 _) ?_)|(refine ca (NClip_tr _ _) ?_;rintro u _ ⟨hu,rfl⟩))|(refine wo ?_;first|(refine ao ?_;first|refine oa ?_)|refine oa ?_)|(refine gc ?_;first|(refine ci (fun hB=>?_) (fun hB=>?_) <;> try (exfalso;omega)))|refine sq ?_|refine rg ?_|refine xc ?_|refine nl ?_|refine xe ?_|refine rt ?_
  exact r2 ⟨u,rfl,hu,rfl⟩
def nbits (n:Nat):Nat:=if n = 0 then 0 else 64 * ((dg n).length - 1) + Lib.bitLen ((dg n).getD ((dg n).length - 1) 0)
theorem NLen_tr (v:Value) (l:List Nat) (hd:Dg l) (hl:l.length ≤ 1099511627776):Tr Tryz.prog 131 [v] [vw v (Us l)] [] fun u D=>(∃ b:Nat,u = I b∧(b = 0 ↔ nv l = 0))∧D = []:=by
 have hk:∀ k,k ≤ l.length→nv (l.drop k) = 0→Tm (l.take k)→(l.take k).length = k∧(k = 0 ↔ nv l = 0):=fun k h1 h2 h3=>by
  refine ⟨by rw [List.length_take];omega,fun h=>by subst h;exact h2,fun h=>?_⟩
  have:dg (nv l) = l.take k:=by rw [← dg_top hd h2,dg_nv (hd.take k) h3]
  rw [h,dg_zero] at this
  have:=congrArg List.length this
  rw [List.length_take] at this
  simp only [List.length_nil] at this
  omega
 refine Tr.enter env _ Tryz.func131 (by kernel_rfl) rfl Tryz.ntmps131 rfl (by repeat (first | exact has00 | refine has01 ?_)) fun w0=>?_
 repeat' first|(refine gca ?_;first|(refine ca (trimmed_tr v l) ?_;rintro u _ ⟨⟨k,g1,hu,g2,g3⟩,rfl⟩))|(refine wo ?_;first|refine oa ?_)|refine sq ?_|refine rg ?_|refine xc ?_|refine nl ?_
 obtain ⟨e1,e2⟩:=hk k g1 g2 g3
 have hh:Has [vw v (Us l)] (vw u (Us (l.take k))):=by rw [hu];exact has_take (has_vw (List.Mem.head _)) g1
 refine TO.im (B:=[vw v (Us l)]) (Im.refl _) ?_
 have hdt:=(hd.take k).getD (k - 1)
 have ht:=fun h:0 < k=>g3.top (by omega)
 rw [e1] at ht
 have hge:(((l.take k).length:Int) - 1).toNat = k - 1:=by omega
 obtain ⟨x,hx⟩ : ∃ x,(l.take k).getD (k - 1) 0 = x:=⟨_,rfl⟩
 rw [hx] at hdt ht
 rw [← hge] at hx
 clear hk g2 g3
 obtain ⟨m,hm⟩ : ∃ m,m = l.take k:=⟨_,rfl⟩
 rw [← hm] at hh e1 hx
 clear hm
 have hbl:=bitLen_le64 x hdt
 have hb1:0 < k→1 ≤ Lib.bitLen x:=fun h=>(bitLen_bounds x hdt (ht h)).1
 repeat' first|(refine gca ?_;first|(refine ca (Len64_tr x hdt) ?_;rintro _ _ ⟨rfl,rfl⟩))|refine lue hx ?_|(refine wo ?_;first|(refine ao ?_;first|refine aw ?_|refine oa ?_)|refine oa ?_|refine lnm ?_|refine ixm ?_)|(refine gc ?_;first|(refine ci (fun hB=>?_) (fun hB=>?_) <;> try (exfalso;omega)))|refine sq ?_|refine rg ?_|refine xc ?_|refine nl ?_|refine sk ?_|refine rt ?_
 ·exact r1 (v:=I 0) ⟨⟨0,rfl,by omega⟩,rfl⟩
 ·exact r1 (v:=I (64 * ((m.length:Int) - 1) + (Lib.bitLen x:Int))) ⟨⟨64 * (m.length - 1) + Lib.bitLen x,by rw [show (64 * ((m.length:Int) - 1) + (Lib.bitLen x:Int)) = ((64 * (m.length - 1) + Lib.bitLen x:Nat):Int) by omega],by have:=hb1 (by omega);omega⟩,rfl⟩
end Go.Art
namespace Go.Art
open Go Go.Proofs Go.RowKit
theorem line_word {x y c o:Nat} (hx:x < 18446744073709551616) (hy:y < 18446744073709551616) (hc:c < 18446744073709551616) (ho:o < 18446744073709551616):∃ hi lo,mul64 x y = .tuple #[Un hi,Un lo]∧hi < 18446744073709551616∧lo < 18446744073709551616∧hi + (lo + c + 0) / 18446744073709551616 < 18446744073709551616 ∧
  hi + (lo + c + 0) / 18446744073709551616 + (o + (lo + c + 0) % 18446744073709551616 + 0) / 18446744073709551616 < 18446744073709551616 ∧
  (o + (lo + c + 0) % 18446744073709551616 + 0) % 18446744073709551616 + 18446744073709551616 * (hi + (lo + c + 0) / 18446744073709551616 + (o + (lo + c + 0) % 18446744073709551616 + 0) / 18446744073709551616) = o + c + x * y:=by
 refine ⟨x * y / 18446744073709551616,x * y % 18446744073709551616,rfl,?_⟩
 have h1:x * y ≤ 18446744073709551615 * 18446744073709551615:=Nat.mul_le_mul (by omega) (by omega)
 obtain ⟨p,hp⟩ : ∃ p,p = x * y:=⟨_,rfl⟩
 rw [← hp] at h1 ⊢
 omega
theorem line_step {T L Q M a x s e o c:Nat} (h:L + c * Q = T + M * x) (hs:s + 18446744073709551616 * e = o + c + x * a) {L':Nat} (hL:L' + Q * o = L + Q * s) {M' R:Nat} (hM:M' = M + R * a) (hR:Q = R):L' + e * (Q * 18446744073709551616) = T + M' * x:=by
 subst hR hM
 have:=congrArg (Q * ·) hs
 simp only [Nat.mul_add] at this
 rw [show e * (Q * 18446744073709551616) = Q * (18446744073709551616 * e) by ac_rfl,Nat.add_mul,show Q * a * x = Q * (x * a) by ac_rfl]
 rw [Nat.mul_comm c] at h
 omega
theorem line_tail {T L Q s e o c:Nat} (h:L + c * Q = T) (hs:s + 18446744073709551616 * e = o + c) {L':Nat} (hL:L' + Q * o = L + Q * s):L' + e * (Q * 18446744073709551616) = T:=by
 have:=congrArg (Q * ·) hs
 simp only [Nat.mul_add] at this
 rw [show e * (Q * 18446744073709551616) = Q * (18446744073709551616 * e) by ac_rfl]
 rw [Nat.mul_comm c] at h
 omega
theorem addr_piece {w:World} {e:TypeId} {o:Value} {xs:List Value} (h:OwnO w e o xs) {q hi:Nat} (hq:q < xs.length) (j:Nat):addrAt (slSub o q hi) j = addrAt o (q + j):=by
 rcases h with ⟨_,rfl⟩ | ⟨g,f,cap,cur,rfl,hb,g2,g3,g4,g5⟩
 ·simp at hq
 ·rw [piece (n':=xs.length) hq g2]
  simp [addrAt,Addr.add_lit,Nat.add_assoc]
attribute [local irreducible] Fit pt own ro vw mpc lpt vels rels mow lrc dfr
set_option maxHeartbeats 1000000 in
theorem line_tr (o va:Value) (q x:Nat) (ys a:List Nat) (hd:Dg ys) (ha:Dg a) (hx:x < 18446744073709551616) (hq:q + a.length < ys.length) (hy:ys.length ≤ 4398046511104) (hb:nv ys + 18446744073709551616 ^ q * nv a * x < 18446744073709551616 ^ ys.length) :
  Tr Tryz.prog 240 [slSub o q ys.length,va,Un x] [vw va (Us a)] [own T64 o (Us ys)] fun _ D=>∃ zs,D = [own T64 o (Us zs)]∧zs.length = ys.length∧Dg zs∧nv zs = nv ys + 18446744073709551616 ^ q * nv a * x:=by
 refine Tr.enter env _ Tryz.func240 (by kernel_rfl) rfl Tryz.ntmps240 rfl (by repeat (first | exact has00 | refine has01 ?_)) fun w0=>?_
 refine TC.fact (p:=∀ j,addrAt (slSub o q ys.length) j = addrAt o (q + j)) (fun w hw j=>addr_piece (own_O (hw.h (own T64 o (Us ys)) memA)) (by rw [Us_len];omega) j) fun hA=>?_
 repeat' first|(refine wo ?_;first|refine oa ?_|refine lnm ?_)|refine sq ?_|refine rg ?_|refine xc ?_|refine nl ?_|refine bk ?_
 refine TC.loop (ι:=Nat × Nat × List Nat) (fun k=>[(15,I k.1),(6,Un k.2.1)]) (fun k=>[own T64 o (Us k.2.2)]) (fun k=>k.2.2.length = ys.length∧k.1 ≤ a.length∧k.2.1 < 18446744073709551616∧Dg k.2.2∧nv k.2.2 + k.2.1 * 18446744073709551616 ^ (q + k.1) = nv ys + 18446744073709551616 ^ q * nv (a.take k.1) * x) (fun k=>a.length - k.1) (0,0,ys) [0,1,2,13,14] ⟨rfl,by simp,by simp,hd,by simp [nv]⟩ ?_
 rintro ⟨i,c,zs⟩ ⟨h1,h2,hc,hz,hI⟩
 dsimp only at h1 h2 hc hz hI ⊢
 by_cases hi:i < a.length
 ·have hyb:=ha.getD i
  have hob:=hz.getD (q + i)
  obtain ⟨mh,ml,e1,e2,e3,e4,e5,e6⟩:=line_word hx hyb hc hob
  have hh:Has [own T64 o (Us zs),vw va (Us a)] (vw (slSub o q ys.length) (Us (zs.drop q))):=by rw [← h1];exact has_drop (has_own (List.Mem.head _)) (by omega)
  have hzl:(zs.drop q).length = ys.length - q:=by rw [List.length_drop,h1]
  refine TC.im (B:=[own T64 o (Us zs),vw va (Us a)]) (Im.refl _) ?_
  repeat' first|(refine gca ?_;first|(refine ca (Mul64_tr x (a.getD i 0) hx hyb) ?_;rintro _ _ ⟨rfl,rfl⟩;rw [e1];refine TO.im (B:=[own T64 o (Us zs),vw va (Us a)]) (Im.refl _) ?_))|refine cadd (c:=0) (by decide) ?_|(refine ixmn ?_;rw [hA])|(refine wo ?_;first|(refine ao ?_;first|(refine nao ?_;first|refine nad ?_)|(refine naou ?_;first|refine nad ?_)|refine aw ?_|refine oa ?_)|refine lu ?_|refine sou ?_|refine oa ?_|refine ixmn ?_)|(refine gc ?_;first|(refine ci (fun hB=>?_) (fun hB=>?_) <;> try (exfalso;omega)))|refine sq ?_|refine rg ?_|refine xc ?_|refine nl ?_|refine sk ?_|refine bk ?_|refine xb ?_
  have hS:=line_step hI e6 (nv_set zs (q + i) ((zs.getD (q + i) 0 + (ml + c + 0) % 18446744073709551616 + 0) % 18446744073709551616) (by omega)) (M':=18446744073709551616 ^ q * nv (a.take (i + 1))) (R:=18446744073709551616 ^ (q + i)) (by rw [nv_take_s,Nat.mul_add,Nat.pow_add,Nat.mul_assoc]) rfl
  exact lp (i + 1,mh + (ml + c + 0) / 18446744073709551616 + (zs.getD (q + i) 0 + (ml + c + 0) % 18446744073709551616 + 0) / 18446744073709551616,zs.set (q + i) ((zs.getD (q + i) 0 + (ml + c + 0) % 18446744073709551616 + 0) % 18446744073709551616)) ⟨by dsimp only;rw [List.length_set];exact h1,by dsimp only;omega,e5,hz.set (Nat.mod_lt _ (by decide)),by dsimp only;rw [← Nat.add_assoc q i 1,Nat.pow_succ];exact hS⟩
 ·obtain rfl:i = a.length:=by omega
  rw [nv_take_all (Nat.le_refl _)] at hI
  repeat' first|(refine wo ?_;first|(refine ao ?_;first|refine oa ?_)|refine oa ?_|refine lnm ?_)|(refine gc ?_;first|(refine ci (fun hB=>?_) (fun hB=>?_) <;> try (exfalso;omega)))|refine sq ?_|refine rg ?_|refine xc ?_|refine nl ?_|refine bk ?_|refine xe ?_
  refine TC.loop (ι:=Nat × Nat × List Nat) (fun k=>[(12,I k.1),(6,Un k.2.1)]) (fun k=>[own T64 o (Us k.2.2)]) (fun k=>k.2.2.length = ys.length∧k.2.1 < 18446744073709551616∧Dg k.2.2∧nv k.2.2 + k.2.1 * 18446744073709551616 ^ (q + k.1) = nv ys + 18446744073709551616 ^ q * nv a * x) (fun k=>ys.length - k.1) (a.length,c,zs) [0,1,2] ⟨h1,hc,hz,hI⟩ ?_
  clear hI hz hc h1 h2 hi
  rintro ⟨j,k,ws⟩ ⟨h1,hc,hz,hI⟩
  dsimp only at h1 hc hz hI ⊢
  by_cases hc0:0 < k
  ·have hql:q + j < ys.length:=by
    rcases Nat.lt_or_ge (q + j) ys.length with h | h
    ·exact h
    ·have h3:18446744073709551616 ^ ys.length ≤ 18446744073709551616 ^ (q + j):=Nat.pow_le_pow_right (by decide) h
     have h4:=Nat.mul_le_mul hc0 h3
     omega
   have hob:=hz.getD (q + j)
   have hh:Has [own T64 o (Us ws),vw va (Us a)] (vw (slSub o q ys.length) (Us (ws.drop q))):=by rw [← h1];exact has_drop (has_own (List.Mem.head _)) (by omega)
   have hzl:(ws.drop q).length = ys.length - q:=by rw [List.length_drop,h1]
   have e6:(ws.getD (q + j) 0 + k + 0) % 18446744073709551616 + 18446744073709551616 * ((ws.getD (q + j) 0 + k + 0) / 18446744073709551616) = ws.getD (q + j) 0 + k:=by rw [Nat.add_zero];exact Nat.mod_add_div _ _
   have e5:(ws.getD (q + j) 0 + k + 0) / 18446744073709551616 < 18446744073709551616:=by omega
   have hS:=line_tail hI e6 (nv_set ws (q + j) ((ws.getD (q + j) 0 + k + 0) % 18446744073709551616) (by omega))
   refine TC.im (B:=[own T64 o (Us ws),vw va (Us a)]) (Im.refl _) ?_
   repeat' first|refine cadd (c:=0) (by decide) ?_|(refine ixmn ?_;rw [hA])|(refine wo ?_;first|(refine ao ?_;first|refine aw ?_|refine oa ?_)|refine lu ?_|refine sou ?_|refine oa ?_)|(refine gc ?_;first|(refine ci (fun hB=>?_) (fun hB=>?_) <;> try (exfalso;omega)))|refine sq ?_|refine rg ?_|refine xc ?_|refine nl ?_|refine sk ?_|refine bk ?_|refine xb ?_
   exact lp (j + 1,(ws.getD (q + j) 0 + k + 0) / 18446744073709551616,ws.set (q + j) ((ws.getD (q + j) 0 + k + 0) % 18446744073709551616)) ⟨by dsimp only;rw [List.length_set];exact h1,e5,hz.set (Nat.mod_lt _ (by decide)),by dsimp only;rw [← Nat.add_assoc q j 1,Nat.pow_succ];exact hS⟩
  ·obtain rfl:k = 0:=by omega
   repeat' first|(refine wo ?_;first|(refine ao ?_;first|refine oa ?_)|refine oa ?_)|(refine gc ?_;first|refine cf ?_)|refine sq ?_|refine rg ?_|refine xc ?_|refine nl ?_|refine xe ?_
   exact e0 ⟨ws,rfl,h1,hz,by rw [Nat.zero_mul,Nat.add_zero] at hI;exact hI⟩
theorem dg_len_le {l:List Nat} (hd:Dg l):(dg (nv l)).length ≤ l.length:=(dg_len _ _).2 (nv_lt hd)
theorem School_tr (va vb:Value) (a b:List Nat) (ha:Dg a) (hb:Dg b) (hla:a.length ≤ 1099511627776) (hlb:b.length ≤ 1099511627776):Tr Tryz.prog 197 [va,vb] [vw va (Us a),vw vb (Us b)] [] fun u D=>u.oneCell' = true∧D = [own T64 u (Us (dg (nv a * nv b)))]:=by
 have h1:=dg_len_le ha
 have h2:=dg_len_le hb
 obtain ⟨x,hx⟩ : ∃ x,x = dg (nv a):=⟨_,rfl⟩
 obtain ⟨y,hy⟩ : ∃ y,y = dg (nv b):=⟨_,rfl⟩
 have hxn:nv x = nv a:=by rw [hx,nv_dg]
 have hyn:nv y = nv b:=by rw [hy,nv_dg]
 have hxd:Dg x:=by rw [hx];exact Dg_dg _
 have hyd:Dg y:=by rw [hy];exact Dg_dg _
 rw [← hx] at h1
 rw [← hy] at h2
 rw [← hxn,← hyn]
 refine Tr.enter env _ Tryz.func197 (by kernel_rfl) rfl Tryz.ntmps197 rfl (by repeat (first | exact has00 | refine has01 ?_)) fun w0=>?_
 repeat' first|(refine gca ?_;first|(refine ca (Trim_tr va a ha (by omega)) ?_;rw [← hx];rintro u1 _ ⟨hu1,rfl⟩)|(refine ca (Trim_tr vb b hb (by omega)) ?_;rw [← hy];rintro u2 _ ⟨hu2,rfl⟩))|(refine mku fun o=>?_)|(refine wo ?_;first|(refine ao ?_;first|refine aw ?_)|refine oa ?_|refine lnm ?_)|refine sq ?_|refine rg ?_|refine xc ?_|refine nl ?_|refine bk ?_
 rw [show ((x.length:Int) + (y.length:Int) + 1).toNat = x.length + y.length + 1 by omega]
 refine TC.loop (ι:=Nat × List Nat) (fun k=>[(21,I k.1)]) (fun k=>[own T64 o (Us k.2)]) (fun k=>k.2.length = x.length + y.length + 1∧k.1 ≤ y.length∧Dg k.2∧nv k.2 = nv x * nv (y.take k.1)) (fun k=>y.length - k.1) (0,List.replicate (x.length + y.length + 1) 0) [0,1,5,19,20] ⟨by simp,by simp,Dg.rep _,by simp [nv,nv_rep]⟩ ?_
 rintro ⟨i,zs⟩ ⟨g1,g2,g3,g4⟩
 dsimp only at g1 g2 g3 g4 ⊢
 by_cases hi:i < y.length
 ·have hyi:=hyd.getD i
  have hb:nv zs + 18446744073709551616 ^ i * nv x * y.getD i 0 = nv x * nv (y.take (i + 1)):=by
   rw [g4,nv_take_s,Nat.mul_add,Nat.mul_comm _ (nv x),Nat.mul_assoc]
  have hb2:nv x * nv (y.take (i + 1)) < 18446744073709551616 ^ zs.length:=by
   have b1:=nv_lt hxd
   have b2:=nv_lt hyd
   have b3:nv (y.take (i + 1)) ≤ nv y:=by rw [nv_cut y (i + 1)];exact Nat.le_add_right _ _
   have b4:nv x * nv (y.take (i + 1)) ≤ 18446744073709551616 ^ x.length * 18446744073709551616 ^ y.length:=Nat.mul_le_mul (Nat.le_of_lt b1) (by omega)
   rw [← Nat.pow_add] at b4
   exact Nat.lt_of_le_of_lt b4 (Nat.pow_lt_pow_right (by decide) (by omega))
  rw [← hb] at hb2
  have hL:=line_tr o u1 i (y.getD i 0) zs x g3 hxd hyi (by omega) (by omega) hb2
  rw [hb] at hL
  clear hb hb2 g4
  repeat' first|(refine gca ?_;first|(refine ca hL ?_;rintro _ _ ⟨ws,rfl,w1,w2,w3⟩))|(refine wo ?_;first|(refine ao ?_;first|refine aw ?_|refine oa ?_)|refine lu ?_|refine oa ?_|refine ixmn ?_|refine sclm ?_)|(refine gc ?_;first|(refine ci (fun hB=>?_) (fun hB=>?_) <;> try (exfalso;omega)))|refine sq ?_|refine rg ?_|refine xc ?_|refine nl ?_|refine sk ?_|refine bk ?_|refine xb ?_
  exact lp (i + 1,ws) ⟨by dsimp only;omega,by dsimp only;omega,w2,w3⟩
 ·obtain rfl:i = y.length:=by omega
  rw [nv_take_all (Nat.le_refl _)] at g4
  rw [← g4]
  repeat' first|(refine gca ?_;first|(refine ca (Trim_tr o zs g3 (by omega)) ?_;rintro u _ ⟨hu,rfl⟩))|(refine wo ?_;first|(refine ao ?_;first|refine oa ?_)|refine oa ?_)|(refine gc ?_;first|(refine ci (fun hB=>?_) (fun hB=>?_) <;> try (exfalso;omega)))|refine sq ?_|refine rg ?_|refine xc ?_|refine nl ?_|refine xe ?_|refine rt ?_
  exact r1 ⟨hu,rfl⟩
theorem NGrow_tr (va:Value) (a:List Nat) (x:Nat) (ha:Dg a) (hx:x < 18446744073709551616) (hla:a.length ≤ 1099511627776):Tr Tryz.prog 138 [va,Un x] [vw va (Us a)] [] fun u D=>u.oneCell' = true∧D = [own T64 u (Us (dg (nv a * x)))]:=by
 have e:nv [x] = x:=by simp [nv]
 refine Tr.enter env _ Tryz.func138 (by kernel_rfl) rfl Tryz.ntmps138 rfl (by repeat (first | exact has00 | refine has01 ?_)) fun w0=>?_
 repeat' first|(refine gca ?_;first|(refine ca (School_tr va o a [x] ha (Dg.one hx) hla (by simp)) ?_;rw [e];rintro u _ ⟨hu,rfl⟩))|(refine slu [x] fun o ho=>?_)|(refine wo ?_;first|refine oa ?_)|refine sq ?_|refine rg ?_|refine xc ?_|refine nl ?_|refine rt ?_
 exact r1 ⟨hu,rfl⟩
end Go.Art
namespace Go.Art
open Go Go.Proofs Go.RowKit
abbrev tup3 (a b c:Value):Value:=.tuple #[a,b,c]
theorem part_step {left a q r x Y L:Nat} (h:L = Y * x + left) (hq:left * 18446744073709551616 + a = x * q + r):a + 18446744073709551616 * L = (q + 18446744073709551616 * Y) * x + r:=by
 rw [h,Nat.add_mul,Nat.mul_add,Nat.mul_assoc,Nat.mul_comm q x,Nat.mul_comm 18446744073709551616 left]
 omega
theorem nv_set_drop (l:List Nat) (i x:Nat) (h:i < l.length):nv ((l.set i x).drop i) = x + 18446744073709551616 * nv (l.drop (i + 1)):=by
 rw [nv_step,getD_setN l i x h,List.drop_set,if_pos (by omega)]
attribute [local irreducible] Fit pt own ro vw mpc lpt vels rels mow lrc dfr
theorem Part_tr (va:Value) (a:List Nat) (x:Nat) (ha:Dg a) (hx:x < 18446744073709551616) (hx0:x ≠ 0) (hla:a.length ≤ 1099511627776):Tr Tryz.prog 196 [va,Un x] [vw va (Us a)] [] fun u D=>∃ o,u = tup3 o (Un (nv a % x)) (I 0)∧o.oneCell' = true∧D = [own T64 o (Us (dg (nv a / x)))]:=by
 refine Tr.enter env _ Tryz.func196 (by kernel_rfl) rfl Tryz.ntmps196 rfl (by repeat (first | exact has00 | refine has01 ?_)) fun w0=>?_
 repeat' first|refine mku fun o=>?_|(refine wo ?_;first|(refine ao ?_;first|refine aw ?_|refine oa ?_)|refine oa ?_|refine lnm ?_)|(refine gc ?_;first|(refine ci (fun hB=>?_) (fun hB=>?_) <;> try (exfalso;omega)))|refine sq ?_|refine rg ?_|refine xc ?_|refine nl ?_|refine sk ?_|refine bk ?_
 rw [Int.toNat_natCast]
 refine TC.loop (ι:=Int × Nat × List Nat) (fun k=>[(9,I k.1),(8,Un k.2.1)]) (fun k=>[own T64 o (Us k.2.2)]) (fun k=>k.2.2.length = a.length∧-1 ≤ k.1∧k.1 < a.length∧k.2.1 < x∧Dg k.2.2∧nv (a.drop (k.1 + 1).toNat) = nv (k.2.2.drop (k.1 + 1).toNat) * x + k.2.1) (fun k=>(k.1 + 1).toNat) ((a.length:Int) - 1,0,List.replicate a.length 0) [0,1,7] ⟨by simp,by dsimp only;omega,by dsimp only;omega,by dsimp only;omega,Dg.rep _,?_⟩ ?_
 ·dsimp only
  rw [show ((a.length:Int) - 1 + 1).toNat = a.length by omega,List.drop_eq_nil_of_le (Nat.le_refl _),List.drop_eq_nil_of_le (by simp)];simp [nv]
 ·rintro ⟨i,left,ys⟩ ⟨h1,h2,h2b,h3,hd,hI⟩
  dsimp only at h1 h2 h2b h3 hd hI ⊢
  by_cases hi:0 ≤ i
  ·obtain ⟨j,rfl⟩ : ∃ j:Nat,i = j:=⟨i.toNat,by omega⟩
   rw [show ((j:Int) + 1).toNat = j + 1 by omega] at hI
   have haj:=ha.getD j
   have hx0':0 < x:=by omega
   have hdm:=Nat.div_add_mod (left * 18446744073709551616 + a.getD j 0) x
   have hS:=part_step hI hdm.symm
   have hr:=Nat.mod_lt (left * 18446744073709551616 + a.getD j 0) hx0'
   have hq:(left * 18446744073709551616 + a.getD j 0) / x < 18446744073709551616:=by
    rw [Nat.div_lt_iff_lt_mul hx0']
    have:=Nat.mul_le_mul_right 18446744073709551616 h3
    rw [Nat.succ_mul,Nat.mul_comm x] at this
    omega
   rw [← nv_step] at hS
   obtain ⟨q,hqe⟩ : ∃ q,q = (left * 18446744073709551616 + a.getD j 0) / x:=⟨_,rfl⟩
   obtain ⟨r,hre⟩ : ∃ r,r = (left * 18446744073709551616 + a.getD j 0) % x:=⟨_,rfl⟩
   have hdv:div64 left (a.getD j 0) x = .tuple #[Un q,Un r]:=by rw [hqe,hre];rfl
   have hD:=Div64_tr left (a.getD j 0) x haj hx h3
   rw [hdv] at hD
   rw [← hqe,← hre] at hS
   rw [← hqe] at hq
   rw [← hre] at hr
   clear hdv hqe hre hdm hI
   repeat' first|(refine gca ?_;first|(refine ca hD ?_;rintro _ _ ⟨rfl,rfl⟩))|(refine wo ?_;first|(refine ao ?_;first|refine aw ?_|refine oa ?_)|refine lu ?_|refine sou ?_|refine oa ?_|refine ixmn ?_)|(refine gc ?_;first|refine ct ?_)|refine sq ?_|refine rg ?_|refine xc ?_|refine nl ?_|refine sk ?_|refine bk ?_|refine xb ?_
   exact lp ((j:Int) - 1,r,ys.set j q) ⟨by dsimp only;rw [List.length_set];exact h1,by dsimp only;omega,by dsimp only;omega,hr,hd.set hq,by dsimp only;rw [show ((j:Int) - 1 + 1).toNat = j by omega,nv_set_drop _ _ _ (by omega)];exact hS⟩
  ·obtain rfl:i = -1:=by omega
   rw [show ((-1:Int) + 1).toNat = 0 from rfl,List.drop_zero,List.drop_zero] at hI
   have e1:nv a / x = nv ys:=by rw [hI,Nat.add_comm,Nat.add_mul_div_right _ _ (by omega),Nat.div_eq_of_lt h3,Nat.zero_add]
   have e2:nv a % x = left:=by rw [hI,Nat.add_comm,Nat.add_mul_mod_self_right,Nat.mod_eq_of_lt h3]
   rw [e1,e2]
   repeat' first|(refine gca ?_;first|(refine ca (Trim_tr o ys hd (by omega)) ?_;rintro u _ ⟨hu,rfl⟩))|(refine wo ?_;first|(refine ao ?_;first|refine oa ?_)|refine oa ?_)|(refine gc ?_;first|refine cf ?_)|refine sq ?_|refine rg ?_|refine xc ?_|refine nl ?_|refine xe ?_|refine rt ?_
   exact r3 ⟨u,rfl,hu,rfl⟩
end Go.Art
namespace Go.Art
open Go Go.Proofs Go.RowKit
def gotoQ (l:Nat) (L:Act→World→Prop) (Q:Exit→Act→World→Prop):Exit→Act→World→Prop
 | .goto l',a,w=>l' = l∧L a w
 | e,a,w=>Q e a w
theorem wpIn_scopeG {F:Fence} {n:Nat} {P:Program} {Q:Exit→Act→World→Prop} {a:Act} {w:World} {c rest:Code} {l:Nat} (hl:findLabel c l = some rest) (G:Nat→Act→World→Prop) (h:c.wpIn F n P (gotoQ l (fun a w=>∃ j,G j a w) Q) a w)
  (round:∀ j a w,G j a w→rest.wpIn F n P (gotoQ l (fun a w=>∃ j',j' < j∧G j' a w) Q) a w):(Code.scope c).wpIn F n P Q a w:=by
 intro b k cs hro hb hr
 have h0:(lone (b.atR a (.code (.scope c) :: k)) cs w).fenced P F:=fenced_calm hb hr rfl
 have s1:step P (lone (b.atR a (.code (.scope c) :: k)) cs w) = .next (lone (b.atR a (.code c :: .inScope c :: k)) cs w):=step_lone_go (by simp [stepG,stepG.exec,Frame.atR])
 have s2:∀ (a:Act) (w:World),step P (lone (b.atR a (.inScope c :: k)) cs w) = .next (lone (b.atR a k) cs w):=fun a w=>step_lone_go (by simp [stepG,stepG.exec,Frame.atR])
 have hx:∀ id',exitTo id' (.inScope c :: k) = exitTo id' k:=fun id'=>by simp [exitTo]
 have hg:gotoIn l (.inScope c :: k) = some (.code rest :: .inScope c :: k):=by simp [gotoIn,hl]
 -- from inside the scope,by what is left of the jumps
 have fin:∀ (m:Machine) (e:Exit) (a₁:Act) (w₁:World),Q e a₁ w₁→(∀ t,e ≠ .goto t)→ArrivesIn (Machine.fenced P F) P m b (.inScope c :: k) cs e a₁ w₁→∃ e a' w',Q e a' w'∧ArrivesIn (Machine.fenced P F) P m b k cs e a' w':=by
  intro m e a₁ w₁ hq hne harr
  cases e with
  | normal=>exact ⟨.normal,a₁,w₁,hq,StepsIn.trans harr (.one (fenced_calm hb hr rfl) (s2 a₁ w₁))⟩
  | exit id'=>exact ⟨.exit id',a₁,w₁,hq,fun k' hk=>harr.1 k' (by rw [hx];exact hk),fun hr' hk=>harr.2 hr' (by rw [hx];exact hk)⟩
  | goto t=>exact absurd rfl (hne t)
  | ret=>exact ⟨_,a₁,w₁,hq,harr⟩
  | panic ch=>exact ⟨_,a₁,w₁,hq,harr⟩
  | outgrown=>exact ⟨_,a₁,w₁,hq,harr⟩
 have key:∀ j a w,G j a w→∃ e a' w',Q e a' w'∧ArrivesIn (Machine.fenced P F) P (lone (b.atR a (.code rest :: .inScope c :: k)) cs w) b k cs e a' w':=by
  intro j
  induction j using Nat.strongRecOn with
  | _ j ih=>
   intro a w hG
   obtain ⟨e,a₁,w₁,hq,harr⟩:=round j a w hG b (.inScope c :: k) cs hro hb hr
   cases e with
   | goto t=>
    obtain ⟨rfl,j',hlt,hG'⟩:=hq
    obtain ⟨e₂,a₂,w₂,hq₂,harr₂⟩:=ih j' hlt a₁ w₁ hG'
    exact ⟨e₂,a₂,w₂,hq₂,.of_steps (harr.1 _ hg) harr₂⟩
   | normal=>exact fin _ _ a₁ w₁ hq (fun _ h=>by cases h) harr
   | exit id=>exact fin _ _ a₁ w₁ hq (fun _ h=>by cases h) harr
   | ret=>exact fin _ _ a₁ w₁ hq (fun _ h=>by cases h) harr
   | panic ch=>exact fin _ _ a₁ w₁ hq (fun _ h=>by cases h) harr
   | outgrown=>exact fin _ _ a₁ w₁ hq (fun _ h=>by cases h) harr
 have start:∃ e a' w',Q e a' w'∧ArrivesIn (Machine.fenced P F) P (lone (b.atR a (.code c :: .inScope c :: k)) cs w) b k cs e a' w':=by
  obtain ⟨e,a₁,w₁,hq,harr⟩:=h b (.inScope c :: k) cs hro hb hr
  cases e with
  | goto t=>
   obtain ⟨rfl,j',hG'⟩:=hq
   obtain ⟨e₂,a₂,w₂,hq₂,harr₂⟩:=key j' a₁ w₁ hG'
   exact ⟨e₂,a₂,w₂,hq₂,.of_steps (harr.1 _ hg) harr₂⟩
  | normal=>exact fin _ _ a₁ w₁ hq (fun _ h=>by cases h) harr
  | exit id=>exact fin _ _ a₁ w₁ hq (fun _ h=>by cases h) harr
  | ret=>exact fin _ _ a₁ w₁ hq (fun _ h=>by cases h) harr
  | panic ch=>exact fin _ _ a₁ w₁ hq (fun _ h=>by cases h) harr
  | outgrown=>exact fin _ _ a₁ w₁ hq (fun _ h=>by cases h) harr
 obtain ⟨e,a',w',hq,harr⟩:=start
 exact ⟨e,a',w',hq,.of_steps (.one h0 s1) harr⟩
theorem den_goto {P:Program} {r:Option Nat} {Q:Exit→Act→World→Prop} {l:Nat} {a:Act} {w:World} (h:Q (.goto l) a w):∀ s:List K,den P r Q s (.goto l) a w
 | []=>h
 | .code _ :: s=>den_goto h s
 | .block _ :: s=>den_goto h s
 | .loop _ :: s=>den_goto h s
section
variable {P:Program} {E:Env P} {n:Sh} {X:Cx} {s:List K} {fr:Fr} {A F:List Ch} {c B:Code} {e:Exit}
def GoL (n:Sh) (X:Cx) {ι:Type} (inv:ι→Fr) (J:ι→List Ch) (I:ι→Prop) (a:Act) (w:World):Prop:=∃ i,I i∧Holds n a (inv i)∧St X (J i) w
theorem TC.scopeG {ι:Type} (inv:ι→Fr) (J:ι→List Ch) (I:ι→Prop) (μ:ι→Nat) {l:Nat}
  (h2:∀ i,I i→TC E n ⟨gotoQ l (LoopT n X inv J I μ i) (den P n.r X.Q s),X.w0,X.A0⟩ [] B (inv i) (J i))
  (h1:(∀ i,I i→∀ fr2 A2,Sub (inv i) fr2→∀ {G},Fit A2 (J i) G→TC E n ⟨gotoQ l (GoL n X inv J I) (den P n.r X.Q s),X.w0,X.A0⟩ [] (.seq (.label l) B) fr2 A2)→TC E n ⟨gotoQ l (GoL n X inv J I) (den P n.r X.Q s),X.w0,X.A0⟩ [] c fr A)
  (hl:findLabel c l = some (.seq .skip B):=by rfl):TC E n X s (.scope c) fr A:=by
 have hm:∀ i,∀ e a w,gotoQ l (LoopT n X inv J I μ i) (den P n.r X.Q s) e a w→gotoQ l (GoL n X inv J I) (den P n.r X.Q s) e a w:=fun i e a w h=>by
  cases e with
  | goto t=>exact ⟨h.1,by obtain ⟨i',h1,h2,h3,_⟩:=h.2;exact ⟨i',h1,h2,h3⟩⟩
  | _=>exact h
 have h1':=h1 fun i hI fr2 A2 hs G hf=>⟨fun w hw=>⟨fun a ha=>wpIn_seq (wpIn_label (wpIn_mono ((h2 i hI).run w ((⟨hw.sat,hw.mv⟩ : St X A2 w).im (Im.trans hf (Im.drop _ _)) |> fun h=>⟨h.sat,h.mv⟩) |>.run a (ha.sub hs)) (hm i)))⟩⟩
 refine ⟨fun w hw=>⟨fun a ha=>wpIn_scopeG hl (fun j a w=>∃ i,μ i = j∧I i∧Holds n a (inv i)∧St X (J i) w) (wpIn_mono ((h1'.run w ⟨hw.sat,hw.mv⟩).run a ha) ?_) ?_⟩⟩
 ·intro e a w h
  cases e with
  | goto t=>exact ⟨h.1,by obtain ⟨i,h1,h2,h3⟩:=h.2;exact ⟨μ i,i,rfl,h1,h2,h3⟩⟩
  | _=>exact h
 ·rintro j a w ⟨i,rfl,hI,hH,hS⟩
  refine wpIn_seq (wpIn_skip (wpIn_mono (((h2 i hI).run w ⟨hS.sat,hS.mv⟩).run a hH) ?_))
  intro e a w h
  cases e with
  | goto t=>exact ⟨h.1,by obtain ⟨i',h1,h2,h3,h4⟩:=h.2;exact ⟨μ i',h4,i',rfl,h1,h2,h3⟩⟩
  | _=>exact h
theorem gto {ι:Type} {inv:ι→Fr} {J:ι→List Ch} {I:ι→Prop} {μ:ι→Nat} {l:Nat} {Q:Exit→Act→World→Prop} {i:ι} {G:List Ch} (i':ι) (h:I i') (hs:Sub (inv i') fr:=by (repeat (refine Sub.cons rfl (by first | rfl | go_num) ?_));exact Sub.nil) (hf:Fit A (J i') G:=by exact fitA) (hlt:μ i' < μ i:=by first | omega | (dsimp only;omega)) :
  TC E n ⟨gotoQ l (LoopT n X inv J I μ i) Q,X.w0,X.A0⟩ s (.goto l) fr A:=
 ⟨fun w hw=>⟨fun a ha=>wpIn_goto (den_goto ⟨rfl,i',h,ha.sub hs,(⟨hw.sat,hw.mv⟩ : St X A w).im (Im.trans hf (Im.drop _ _)),hlt⟩ s)⟩⟩
theorem scg {l:Nat} {L:Act→World→Prop} (he:∀ Q a w,gotoQ l L Q e a w = Q e a w) (h:TX E n X s e fr A):TX E n ⟨gotoQ l L (den P n.r X.Q s),X.w0,X.A0⟩ [] e fr A:=
 ⟨fun w hw=>⟨fun a ha=>(he _ a w).mpr ((h.run w ⟨hw.sat,hw.mv⟩).run a ha)⟩⟩
end
end Go.Art
namespace Go.Art
open Go Go.Proofs Go.RowKit
def stepL (ys:List Nat) (j n:Nat) (r:List Nat):List Nat:=ys.take j ++ r ++ List.replicate (n + 1 - r.length) 0 ++ ys.drop (j + n + 1)
theorem stepL_facts {ys r:List Nat} {j n:Nat} (hr:r.length ≤ n + 1) (hj:j + n + 1 ≤ ys.length) (hd:Dg ys) (hdr:Dg r) :
  (stepL ys j n r).length = ys.length∧Dg (stepL ys j n r)∧nv (stepL ys j n r) = nv (ys.take j) + 18446744073709551616 ^ j * (nv r + 18446744073709551616 ^ (n + 1) * nv (ys.drop (j + n + 1)))∧nv ((stepL ys j n r).drop j) = nv r + 18446744073709551616 ^ (n + 1) * nv (ys.drop (j + n + 1)):=by
 have e1:nv (r ++ List.replicate (n + 1 - r.length) 0 ++ ys.drop (j + n + 1)) = nv r + 18446744073709551616 ^ (n + 1) * nv (ys.drop (j + n + 1)):=by
  rw [nv_app,nv_app,nv_rep,Nat.mul_zero,Nat.add_zero,List.length_append,List.length_replicate,show r.length + (n + 1 - r.length) = n + 1 by omega]
 have e2:stepL ys j n r = ys.take j ++ (r ++ List.replicate (n + 1 - r.length) 0 ++ ys.drop (j + n + 1)):=by unfold stepL;simp only [List.append_assoc]
 have hl:(ys.take j).length = j:=by rw [List.length_take];omega
 refine ⟨?_,?_,?_,?_⟩
 ·unfold stepL;simp;omega
 ·exact (((hd.take j).app hdr).app (Dg.rep _)).app (hd.drop _)
 ·rw [e2,nv_app,e1,hl]
 ·rw [e2,List.drop_left' hl,e1]
theorem win_facts {ys:List Nat} {j n:Nat} (hj:j + n + 1 ≤ ys.length):nv ys = nv (ys.take j) + 18446744073709551616 ^ j * (nv ((ys.take (j + n + 1)).drop j) + 18446744073709551616 ^ (n + 1) * nv (ys.drop (j + n + 1))):=by
 have h1:=nv_cut ys j
 have h2:=nv_cut (ys.drop j) (n + 1)
 rw [List.drop_drop,List.take_drop,show j + (n + 1) = j + n + 1 by omega] at h2
 rw [h1,h2]
theorem guess_ok {w V u1 u0 t n low vlow:Nat} (hw:w = (u1 * 18446744073709551616 + u0) * 18446744073709551616 ^ n + low) (hlow:low < 18446744073709551616 ^ n) (hV:V = t * 18446744073709551616 ^ n + vlow) (ht:0 < t):w / V ≤ (u1 * 18446744073709551616 + u0) / t:=by
 have hp:0 < 18446744073709551616 ^ n:=Nat.pow_pos (by decide)
 have h1:w / V ≤ w / (t * 18446744073709551616 ^ n):=Nat.div_le_div_left (by omega) (Nat.mul_pos ht hp)
 have h2:w / (t * 18446744073709551616 ^ n) = (u1 * 18446744073709551616 + u0) / t:=by
  rw [Nat.mul_comm t,← Nat.div_div_eq_div_mul,hw,Nat.mul_comm _ (18446744073709551616 ^ n),Nat.mul_add_div hp,Nat.div_eq_of_lt hlow,Nat.add_zero]
 omega
theorem Im.drop' {c:Ch} {A:List Ch}:Im (c :: A) A:=Im.trans (Im.perm (List.perm_append_comm (l₁:=[c]) (l₂:=A))) (Im.drop A [c])
attribute [local irreducible] Fit pt own ro vw mpc lpt vels rels mow lrc dfr
set_option maxHeartbeats 2000000 in
theorem step_tr (o vv:Value) (ys v:List Nat) (j:Nat) (hd:Dg ys) (hv:Dg v) (hvl:2 ≤ v.length) (htop:v.getD (v.length - 1) 0 ≠ 0) (hj:j + v.length + 1 ≤ ys.length) (hyl:ys.length ≤ 1099511627776) (hw:nv ((ys.take (j + v.length + 1)).drop j) < nv v * 18446744073709551616) :
  Tr Tryz.prog 254 [slSub o j (j + v.length + 1),vv] [vw vv (Us v)] [own T64 o (Us ys)] fun u D=>u = Un (nv ((ys.take (j + v.length + 1)).drop j) / nv v)∧D = [own T64 o (Us (stepL ys j v.length (dg (nv ((ys.take (j + v.length + 1)).drop j) % nv v))))]:=by
 have hh:Has [own T64 o (Us ys),vw vv (Us v)] (vw (slSub o j (j + v.length + 1)) (Us ((ys.take (j + v.length + 1)).drop j))):=has_subu (has_own (List.Mem.head _)) (by omega) hj
 have hwd:Dg ((ys.take (j + v.length + 1)).drop j):=hd.sub _ _
 have hwl:((ys.take (j + v.length + 1)).drop j).length = v.length + 1:=by rw [List.length_drop,List.length_take];omega
 obtain ⟨uv,huv⟩ : ∃ uv,uv = slSub o j (j + v.length + 1):=⟨_,rfl⟩
 obtain ⟨win,hwin⟩ : ∃ win,win = (ys.take (j + v.length + 1)).drop j:=⟨_,rfl⟩
 rw [← huv] at hh ⊢
 rw [← hwin] at hh hwd hwl hw ⊢
 -- the digits that the guess is made of
 obtain ⟨u1,eu1⟩ : ∃ u1,win.getD v.length 0 = u1:=⟨_,rfl⟩
 obtain ⟨u0,eu0⟩ : ∃ u0,win.getD ((v.length:Int) - 1).toNat 0 = u0:=⟨_,rfl⟩
 obtain ⟨t,et⟩ : ∃ t,v.getD ((v.length:Int) - 1).toNat 0 = t:=⟨_,rfl⟩
 have hn1:((v.length:Int) - 1).toNat = v.length - 1:=by omega
 have bu1:u1 < 18446744073709551616:=by rw [← eu1];exact hwd.getD _
 have bu0:u0 < 18446744073709551616:=by rw [← eu0];exact hwd.getD _
 have bt:t < 18446744073709551616:=by rw [← et];exact hv.getD _
 have ht0:t ≠ 0:=by rw [← et,hn1];exact htop
 have hV0:0 < nv v:=by
  refine Nat.pos_of_ne_zero fun h=>ht0 ?_
  rw [← et,hn1,List.getD_eq_getElem?_getD,List.getElem?_eq_getElem (by omega)]
  exact nv_zero h _ (List.getElem_mem _)
 have hVb:=nv_lt hv
 have hQb:nv win / nv v < 18446744073709551616:=by rw [Nat.div_lt_iff_lt_mul hV0,Nat.mul_comm];exact hw
 have hG:u1 < t→nv win / nv v ≤ (u1 * 18446744073709551616 + u0) / t:=fun _=>by
  refine guess_ok (n:=v.length - 1) (low:=nv (win.take (v.length - 1))) (vlow:=nv (v.take (v.length - 1))) ?_ (nv_low hwd _) ?_ (by omega)
  ·rw [nv_cut win (v.length - 1),nv_step,nv_step,show v.length - 1 + 1 = v.length by omega,List.drop_eq_nil_of_le (by omega),← hn1,eu0,eu1]
   simp only [nv,Nat.mul_zero,Nat.add_zero]
   rw [Nat.mul_comm (u1 * 18446744073709551616 + u0),Nat.mul_comm u1,Nat.add_comm u0];exact Nat.add_comm _ _
  ·rw [nv_cut v (v.length - 1),nv_step,List.drop_eq_nil_of_le (by omega),← hn1,et]
   simp only [nv,Nat.mul_zero,Nat.add_zero]
   rw [Nat.mul_comm t];exact Nat.add_comm _ _
 have hGb:u1 < t→(u1 * 18446744073709551616 + u0) / t < 18446744073709551616:=fun h=>by
  rw [Nat.div_lt_iff_lt_mul (by omega)]
  have:=Nat.mul_le_mul_right 18446744073709551616 h
  rw [Nat.succ_mul,Nat.mul_comm t] at this
  omega
 have hrl:(dg (nv win % nv v)).length ≤ v.length:=(dg_len _ _).2 (Nat.lt_trans (Nat.mod_lt _ hV0) hVb)
 have hdm:=Nat.div_add_mod (nv win) (nv v)
 obtain ⟨Q,hQ⟩ : ∃ Q,Q = nv win / nv v:=⟨_,rfl⟩
 obtain ⟨r,hr⟩ : ∃ r,r = nv win % nv v:=⟨_,rfl⟩
 rw [← hQ] at hQb hG hdm ⊢
 rw [← hr] at hrl hdm ⊢
 have hrV:r < nv v:=by rw [hr];exact Nat.mod_lt _ hV0
 have hle:∀ g,nv v * g ≤ nv win→g ≤ Q:=fun g h=>by rw [hQ,Nat.le_div_iff_mul_le hV0,Nat.mul_comm];exact h
 clear hQ hr hwin
 refine Tr.enter env _ Tryz.func254 (by kernel_rfl) rfl Tryz.ntmps254 rfl (by repeat (first | exact has00 | refine has01 ?_)) fun w0=>?_
 refine TC.im (B:=[own T64 o (Us ys),vw vv (Us v)]) (Im.perm (List.Perm.swap _ _ _)) ?_
 repeat' first|(refine wo ?_;first|refine oa ?_)|refine sq ?_|refine rg ?_|refine xc ?_|refine nl ?_
 refine TC.scopeG (ι:=Nat × Value) (l:=0) (fun i=>[(0,uv),(1,vv),(5,I v.length),(6,Un i.1),(7,i.2)]) (fun i=>[own T64 i.2 (Us (dg (nv v * i.1))),own T64 o (Us ys),vw vv (Us v)]) (fun i=>Q ≤ i.1∧i.1 < 18446744073709551616∧i.2.oneCell' = true) (fun i=>i.1) ?_ (fun kb=>?_)
 ·rintro ⟨g,p⟩ ⟨h1,h2,h3⟩
  dsimp only at h1 h2 h3 ⊢
  have hpn:nv (dg (nv v * g)) = nv v * g:=nv_dg _
  have hpd:Dg (dg (nv v * g)):=Dg_dg _
  have hpl:(dg (nv v * g)).length ≤ 1099511627776:=Nat.le_trans ((dg_len _ (v.length + 1)).2 (by rw [Nat.pow_succ];exact Nat.mul_lt_mul'' hVb h2)) (by omega)
  have hh2:Has [own T64 p (Us (dg (nv v * g))),own T64 o (Us ys),vw vv (Us v)] (vw uv (Us win)):=hh.mono Im.drop'
  have hCmp:=Cmp_tr p uv (dg (nv v * g)) win hpd hwd
  rw [hpn] at hCmp
  by_cases hgt:nv win < nv v * g
  ·have hc:¬ cmpN (nv v * g) (nv win) < 0∧cmpN (nv v * g) (nv win) ≠ 0:=⟨by rw [cmpN_lt];omega,by rw [Ne,cmpN_eq];omega⟩
   have hg1:1 ≤ g:=by
    rcases Nat.eq_zero_or_pos g with h | h
    ·rw [h,Nat.mul_zero] at hgt;omega
    ·exact h
   have hQg:Q ≤ g - 1:=by
    rcases Nat.lt_or_ge Q g with h | h
    ·omega
    ·obtain rfl:Q = g:=by omega
     omega
   have hsb:nv v * g - nv v = nv v * (g - 1):=by rw [Nat.mul_sub,Nat.mul_one]
   have hSub:=NSub_tr p vv (dg (nv v * g)) v hpd hv hpl (by omega) (by rw [hpn];exact Nat.le_mul_of_pos_right _ hg1)
   rw [hpn,hsb] at hSub
   clear hgt hsb
   repeat' first|(refine gca ?_;first|(refine ca hCmp ?_;rintro _ _ ⟨rfl,rfl⟩;refine TO.im (B:=[own T64 p (Us (dg (nv v * g))),own T64 o (Us ys),vw vv (Us v)]) (Im.refl _) ?_)|(refine ca hSub ?_;rintro _ _ ⟨p2,rfl,hp2,rfl⟩))|(refine wo ?_;first|(refine ao ?_;first|(refine nao ?_;first|refine nsb ?_)|(refine naou ?_;first|refine nsb ?_)|refine oa ?_)|refine oa ?_)|(refine gc ?_;first|(refine ci (fun hB=>?_) (fun hB=>?_) <;> try (exfalso;omega)))|refine sq ?_|refine rg ?_|refine xc ?_|refine nl ?_
   exact gto (g - 1,p2) ⟨hQg,by omega,hp2⟩
  ·obtain rfl:g = Q:=Nat.le_antisymm (hle g (by omega)) h1
   have hc:¬ 0 < cmpN (nv v * g) (nv win):=by unfold cmpN;split <;> (try split) <;> omega
   have hsb:nv win - nv v * g = r:=by omega
   have hSub:=NSub_tr uv p win (dg (nv v * g)) hwd hpd (by omega) hpl (by rw [hpn];omega)
   rw [hpn,hsb] at hSub
   obtain ⟨y1,hy1⟩ : ∃ y1,y1 = ys.take j ++ List.replicate (v.length + 1) 0 ++ ys.drop (j + v.length + 1):=⟨_,rfl⟩
   have hl1:(ys.take j).length = j:=by rw [List.length_take];omega
   have hy1l:y1.length = ys.length:=by rw [hy1];simp;omega
   have eq1:(Us ys).take j ++ List.replicate (j + v.length + 1 - j) (Un 0) ++ (Us ys).drop (j + v.length + 1) = Us y1:=by
    rw [Us_rep,Us_take,Us_drop,← Us_app,← Us_app,hy1,show j + v.length + 1 - j = v.length + 1 by omega]
   have eq2:(Us y1).take j ++ Us (dg r) ++ (Us y1).drop (j + (Us (dg r)).length) = Us (stepL ys j v.length (dg r)):=by
    rw [Us_len,Us_take,Us_drop,← Us_app,← Us_app,stepL,hy1]
    simp only [List.append_assoc]
    rw [List.take_left' hl1,← List.drop_drop,List.drop_left' hl1,List.drop_append_of_le_length (by rw [List.length_replicate];omega),List.drop_replicate]
   have hcl:j + (Us (dg r)).length ≤ j + v.length + 1:=by rw [Us_len];omega
   have hyu:j + v.length + 1 ≤ (Us ys).length:=by rw [Us_len];omega
   have hyu1:j + v.length + 1 ≤ (Us y1).length:=by rw [Us_len];omega
   clear hsb hgt hdm
   repeat' first|(refine gca ?_;first|(refine ca hCmp ?_;rintro _ _ ⟨rfl,rfl⟩;refine TO.im (B:=[own T64 p (Us (dg (nv v * g))),own T64 o (Us ys),vw vv (Us v)]) (Im.refl _) ?_)|(refine ca hSub ?_ (hs:=Fit.nil) (hp:=has1 hh2 (has1 (has_own (List.Mem.head _)) has0));rintro _ _ ⟨p2,rfl,hp2,rfl⟩))|(refine clr (a:=o) (lo:=j) (hi:=j + v.length + 1) (xs:=Us ys) (z:=Un 0) ?_ (by rw [← huv];rfl) (hlo:=by omega) (hhi:=hyu);rw [eq1])|(refine cps (a:=o) (lo:=j) (hi:=j + v.length + 1) (xs:=Us y1) (cs:=Us (dg r)) ?_ (by rw [← huv];rfl) (hlo:=by omega) (hhi:=hyu1) (hcs:=hcl) (h1:=Us_one _);rw [eq2])|(refine wo ?_;first|(refine ao ?_;first|refine oa ?_)|refine oa ?_)|(refine gc ?_;first|(refine ci (fun hB=>?_) (fun hB=>?_) <;> try (exfalso;omega)))|refine sq ?_|refine rg ?_|refine xc ?_|refine nl ?_|refine sk ?_|refine rt ?_
   exact scg (fun _ _ _=>rfl) (r1 ⟨rfl,rfl⟩)
 ·repeat' first|refine sq_cutX (a:=.seq (.region 3 _ _) _) (ι:=Nat) (fun g=>Q ≤ g∧g < 18446744073709551616) (fun g=>[(0,uv),(1,vv),(5,I v.length),(6,Un g)]) (fun _=>[own T64 o (Us ys),vw vv (Us v)]) ?_ (fun kc=>?_)|(refine wo ?_;first|refine oa ?_|refine lnm ?_)|refine sq ?_|refine rg ?_|refine xc ?_|refine nl ?_
  ·rintro g ⟨h1,h2⟩
   repeat' first|(refine gca ?_;first|(refine ca (NGrow_tr vv v g hv h2 (by omega)) ?_;rintro p _ ⟨hp,rfl⟩))|exact kb (g,p) ⟨h1,h2,hp⟩ _ _ (by (repeat (refine Sub.cons rfl (by first | rfl | go_num) ?_));exact Sub.nil) fitA|(refine wo ?_;first|refine oa ?_)|refine sq ?_|refine rg ?_|refine xc ?_|refine nl ?_
  ·repeat' first|refine rs (id:=4) (fun w=>Sl w uv (Us win)∧Sl w vv (Us v)) ?_ (fun w hw=>⟨has_sl (A:=[own T64 o (Us ys),vw vv (Us v)]) hw hh,vw_sl (hw.h (vw vv (Us v)) memA)⟩)|exact kc 18446744073709551615 ⟨by omega,by decide⟩ _ _ (by (repeat (refine Sub.cons rfl (by first | rfl | go_num) ?_));exact Sub.nil) fitA|(refine gc ?_;first|(refine ci (fun hB=>?_) (fun hB=>?_) <;> try (exfalso;omega)))|refine xc ?_|refine sk ?_|refine rq ?_|refine nq ?_|(refine wq ?_;first|(refine qao ?_;first|refine qaw ?_|refine qa ?_)|refine qlu ?_|refine qa ?_|refine qixmn ?_|refine qixm ?_)
   have hlt:u1 < t:=by omega
   refine tka 0 ?_
   refine tka 1 ?_
   refine tk 2 (v:=.pointer (some (addrAt uv v.length))) (fun w h=>R_idx (E:=env) (i:=(v.length:Int)) rfl rfl rfl rfl h.1 ⟨Int.natCast_nonneg _,by rw [Us_len];omega⟩) ?_
   refine tke 3 (v:=Un u1) (by rw [eu1]) (fun w h=>R_load (E:=env) (v:=Un (win.getD v.length 0)) rfl rfl rfl (h.1.cell (Us_get win v.length (by omega)))) ?_
   refine tka 4 ?_
   refine tka 5 ?_
   refine tkw 6 ((v.length:Int) - 1) ?_
   refine tk 7 (v:=.pointer (some (addrAt uv ((v.length:Int) - 1).toNat))) (fun w h=>R_idx (E:=env) (i:=(v.length:Int) - 1) rfl rfl rfl rfl h.1 ⟨by omega,by rw [Us_len];omega⟩) ?_
   refine tke 8 (v:=Un u0) (by rw [eu0]) (fun w h=>R_load (E:=env) (v:=Un (win.getD ((v.length:Int) - 1).toNat 0)) rfl rfl rfl (h.1.cell (Us_get win ((v.length:Int) - 1).toNat (by omega)))) ?_
   refine tka 9 ?_
   refine tka 10 ?_
   refine tkw 11 ((v.length:Int) - 1) ?_
   refine tk 12 (v:=.pointer (some (addrAt vv ((v.length:Int) - 1).toNat))) (fun w h=>R_idx (E:=env) (i:=(v.length:Int) - 1) rfl rfl rfl rfl h.2 ⟨by omega,by rw [Us_len];omega⟩) ?_
   refine tke 13 (v:=Un t) (by rw [et]) (fun w h=>R_load (E:=env) (v:=Un (v.getD ((v.length:Int) - 1).toNat 0)) rfl rfl rfl (h.2.cell (Us_get v ((v.length:Int) - 1).toNat (by omega)))) ?_
   refine t1 14 ?_
   refine ca (Div64_tr u1 u0 t bu0 bt hlt) ?_
   rintro _ _ ⟨rfl,rfl⟩
   refine nl ?_
   refine te (fun w hw=>⟨has_sl (A:=[own T64 o (Us ys),vw vv (Us v)]) hw hh,vw_sl (hw.h (vw vv (Us v)) memA)⟩) ?_
   refine tka 15 ?_
   refine tka 16 ?_
   refine tka 17 ?_
   refine tka 18 ?_
   refine t0 ?_
   refine xc ?_
   exact kc ((u1 * 18446744073709551616 + u0) / t) ⟨hG hlt,hGb hlt⟩ _ _ (by (repeat (refine Sub.cons rfl (by first | rfl | go_num) ?_));exact Sub.nil) fitA
end Go.Art
namespace Go.Art
open Go Go.Proofs Go.RowKit
section
variable {P:Program}
theorem run_room_z (w:World) (t tn ty e:TypeId) (i:TypeInfo) (z:Value) (k kn:IntKind) (ht:P.underlying t = some (.slice e)) (htn:P.underlying tn = some (.int kn)) (hi:P.info? e = some i) (hz:i.zero = some z) (hs:i.size = 1) (hz1:z.cells = #[z]) (ho:z.oneCell' = true)
  (g o sLen sCap:Nat) (cur:Array Value) (hg:w.heap[g]? = some (.cells cur e (0,0))) (n:Nat) (h0:0 < n) (h63:(n:Int) ≤ 9223372036854775807) (h48:n * i.bytes ≤ 281474976710656) (hroom:sLen + n ≤ sCap) (hfit:o + sLen + n ≤ cur.size) :
  (Builtin.append_ #[t,tn] ty #[.slice (some ⟨g,o,none⟩) sLen sCap,.int k n]).run P w =
   .ok (.slice (some ⟨g,o,none⟩) (sLen + n) sCap) (w.setRow g (cur.toList.take (o + sLen) ++ List.replicate n z ++ cur.toList.drop (o + sLen + n)).toArray):=by
 have hw:IntKind.i64.wrap (n:Int) = n:=by rw [IntKind.wrap_i64];omega
 have h48i:¬ (281474976710656 < (n:Int) * (i.bytes:Int)):=by rw [← Int.natCast_mul];omega
 have hneg:¬ ((n:Int) < 0):=by omega
 have hns:n ≠ 0:=by omega
 have hst:=run_storeCells_at P g (o + sLen) e (List.replicate n z) 0 cur w hg (by simpa using hfit) (fun c hc=>by rw [List.eq_of_mem_replicate hc];exact ho)
 simp only [Nat.add_zero,List.length_replicate] at hst
 simp [Builtin.append_,run_underlying ht,run_underlying htn,sizeOf,typeInfo,zeroValue,hi,hz,hz1,hs,zeroCells1,asInt,asIntOf,hw,hneg,hns,h48i,hroom,Addr.add_lit,hst]
theorem run_same_z (w:World) (t tn ty e:TypeId) (i:TypeInfo) (k kn:IntKind) (ht:P.underlying t = some (.slice e)) (htn:P.underlying tn = some (.int kn)) (hi:P.info? e = some i) (b:Option Addr) (sLen sCap:Nat) (hle:sLen ≤ sCap) :
  (Builtin.append_ #[t,tn] ty #[.slice b sLen sCap,.int k 0]).run P w = .ok (.slice b sLen sCap) w:=by
 have hw:IntKind.i64.wrap 0 = 0:=by rw [IntKind.wrap_i64];omega
 cases b <;> simp [Builtin.append_,run_underlying ht,run_underlying htn,sizeOf,typeInfo,hi,asInt,asIntOf,hw,hle,storeCells]
theorem run_grow_z (w:World) (t tn ty e:TypeId) (i:TypeInfo) (z:Value) (k kn:IntKind) (ht:P.underlying t = some (.slice e)) (htn:P.underlying tn = some (.int kn)) (hi:P.info? e = some i) (hz:i.zero = some z) (hs:i.size = 1) (hz1:z.cells = #[z])
  (b:Addr) (sLen sCap:Nat) (olds:List Value) (hlo:olds.length = sLen * i.size) (holds:∀ j v,olds[j]? = some v→w.cell? (b.add j) = some v) (n:Nat) (h0:0 < n) (h63:((sLen + n:Nat):Int) ≤ 9223372036854775807) (h48:n * i.bytes ≤ 281474976710656) (hg:sCap < sLen + n) (hfit:Builtin.nextslicecap (sLen + n) sCap * i.bytes ≤ 281474976710656) :
  (Builtin.append_ #[t,tn] ty #[.slice (some b) sLen sCap,.int k n]).run P w =
   .ok (.slice (some ⟨w.heap.size,0,none⟩) (sLen + n) (grownCap w (sLen + n) sCap e)) (w.drew.alloc (.cells (olds.toArray ++ (List.replicate n z).toArray ++ (List.replicate (grownCap w (sLen + n) sCap e - (sLen + n)) z).toArray) e)):=by
 have hn:¬ (sLen + n ≤ sCap):=by omega
 have hw:IntKind.i64.wrap (n:Int) = n:=by rw [IntKind.wrap_i64];omega
 have h48i:¬ (281474976710656 < (n:Int) * (i.bytes:Int)):=by rw [← Int.natCast_mul];omega
 have hneg:¬ ((n:Int) < 0):=by omega
 have hns:n ≠ 0:=by omega
 have h63':¬ (9223372036854775807 < ((sLen:Int) + (n:Int))):=by omega
 have h48':¬ (281474976710656 < Builtin.nextslicecap (sLen + n) sCap * i.bytes):=by omega
 have hfo:=run_firstCells_some (P:=P) w.drew i.size sLen b sLen sCap olds hlo (by simpa using holds)
 rw [hs] at hfo
 simp [Builtin.append_,run_underlying ht,run_underlying htn,sizeOf,typeInfo,zeroValue,hi,hz,hz1,hs,zeroCells1,asInt,asIntOf,hw,hneg,hns,h48i,hn,h63',h48',Question.forced,hfo,newRow,grownCap]
variable {E:Env P} {n:Sh} {X:Cx} {s:List K} {fr:Fr} {A A':List Ch} {ops:Array Oper} {rest:List Oper} {d:Nat} {ty t t':TypeId} {pos:String} {after:Array Edge} {x y:Operand} {w:World} {v u z:Value} {by_:Nat} {xs:List Value} {e:TypeId} {k1 kn:IntKind} {m:Int}
theorem run_appendZ (t0:TypeId) (w:World) (ht:lk E.und t = some (.slice e)) (htn:lk E.und t' = some (.int kn)) (he:lk E.inf e = some (z,1,by_)) (hz:z.cells = #[z]) (hz1:z.oneCell' = true) (hown:OwnO w e v xs) {k:Nat} (hl:xs.length + k ≤ 17592186044416) (hb:by_ ≤ 8) :
  ∃ v' w',(Builtin.append_ #[t,t'] t0 #[v,.int k1 k]).run P w = .ok v' w'∧OwnO w' e v' (xs ++ List.replicate k z)∧Upd w w' v.ownBlock.toList∧∀ b,v'.ownBlock = some b→v.ownBlock = some b∨w.heap.size ≤ b:=by
 obtain ⟨inf,hi,hiz,his,hib⟩:=E.info he
 have hk8:k * inf.bytes ≤ 281474976710656:=by rw [hib];have:=Nat.mul_le_mul (show k ≤ 17592186044416 by omega) hb;omega
 have hl8:(xs.length + k) * by_ ≤ 140737488355328:=by have:=Nat.mul_le_mul hl hb;omega
 rcases Nat.eq_zero_or_pos k with rfl | hpos
 ·rw [List.replicate_zero,List.append_nil]
  obtain ⟨a,c,rfl,hc,_⟩:=hown.sl
  exact ⟨_,w,run_same_z w t t' t0 e inf k1 kn (E.un ht) (E.un htn) hi a xs.length c hc,hown,Upd.refl _ _,fun _ h=>.inl h⟩
 ·have hupd:∀ (o:Obj) (S:List Nat),Upd w (w.drew.alloc o) S:=fun o S=>((Upd.drew w).trans (Upd.alloc w.drew o)).weak (by simp)
  rcases hown with ⟨rfl,rfl⟩ | ⟨g,o,cap,cur,rfl,hg,h2,h3,h4,h5⟩
  ·have hr:=Lib.run_append_nil_zeros (P:=P) w t t' t0 e inf z k1 kn (E.un ht) (E.un htn) hi hiz k hpos (by rw [his];decide) (by omega) hk8
   have hge:=grownCap_ge w k 0 e
   refine ⟨_,_,hr,.inr ⟨w.heap.size,0,grownCap w k 0 e,_,by simp,heap_alloc_new w.drew _,by simpa using hge,grownCap_le_maxLen w k 0 e (by unfold maxLen;omega),?_,?_⟩,hupd _ _,fun b hb=>.inr (by cases hb;exact Nat.le_refl _)⟩
   ·rw [hz,zeroCells1,zeroCells1];simp;omega
   ·rw [hz,zeroCells1,zeroCells1];simp
  ·by_cases hroom:xs.length + k ≤ cap
   ·have hr:=run_room_z w t t' t0 e inf z k1 kn (E.un ht) (E.un htn) hi hiz his hz hz1 g o xs.length cap cur hg k hpos (by omega) hk8 hroom (by omega)
    refine ⟨_,_,hr,.inr ⟨g,o,cap,_,by simp,setRow_heap w g cur _ e _ hg,by simpa using hroom,h3,?_,?_⟩,Upd.setRow w g _,fun _ h=>.inl h⟩
    ·simp only [List.size_toArray,List.length_append,List.length_take,List.length_drop,Array.length_toList,List.length_replicate];omega
    ·have hcl:cur.toList.length = cur.size:=Array.length_toList
     rw [List.append_assoc,List.drop_append_of_le_length (by rw [List.length_take,hcl];omega),show List.drop o (List.take (o + xs.length) cur.toList) = List.take xs.length (List.drop o cur.toList) by rw [List.drop_take,Nat.add_sub_cancel_left]]
     rw [h5,← List.append_assoc]
     exact List.take_left
   ·have hsl:Sl w (.slice (some ⟨g,o,none⟩) xs.length cap) xs:=OwnO.sl (.inr ⟨g,o,cap,cur,rfl,hg,h2,h3,h4,h5⟩)
    have hr:=run_grow_z w t t' t0 e inf z k1 kn (E.un ht) (E.un htn) hi hiz his hz ⟨g,o,none⟩ xs.length cap xs (by rw [his,Nat.mul_one]) (fun j c hj=>hsl.cell hj) k hpos (by omega) hk8 (by omega) (by subst hib;exact growslice_fits (by omega) hl8)
    have hge:=grownCap_ge w (xs.length + k) cap e
    refine ⟨_,_,hr,.inr ⟨w.heap.size,0,grownCap w (xs.length + k) cap e,_,by simp,heap_alloc_new w.drew _,by simpa using hge,grownCap_le_maxLen w _ _ e (by unfold maxLen;omega),?_,?_⟩,hupd _ _,fun b hb=>.inr (by cases hb;exact Nat.le_refl _)⟩
    ·simp;omega
    ·simp only [Array.toList_append,List.append_assoc,List.drop_zero]
     rw [← List.append_assoc]
     exact List.take_left
theorem apzo {k:Nat} (kk:∀ v',TO E n X s ops rest ((d,v') :: fr) (own e v' (xs ++ List.replicate k z) :: A')) (hx:ev fr x = some v:=by rfl) (hy:ev fr y = some (.int k1 (k:Int)):=by rfl) (hm:Tk (own e v xs) A A':=by exact tkA) (hl:xs.length + k ≤ 17592186044416:=by omega)
  (ht:lk E.und t = some (.slice e):=by rfl) (htn:lk E.und t' = some (.int kn):=by rfl) (he:lk E.inf e = some (z,1,by_):=by rfl) (hz:z.cells = #[z]:=by rfl) (hz1:z.oneCell' = true:=by rfl) (hb:by_ ≤ 8:=by decide) (hd:Nat.blt d n.n = true:=by rfl) :
  TO E n X s ops (⟨some d,.call ⟨.builtin .append,#[x,y],#[t,t']⟩,ty,pos,after,none⟩ :: rest) fr A:=⟨fun w hw=>by
 have h2:=hw.im hm
 have h3:OwnO w e v xs:=h2.mem (List.Mem.head _)
 obtain ⟨v',w',hr,hO,hU,hW⟩:=run_appendZ (P:=P) (k1:=k1) ty w ht htn he hz hz1 h3 hl hb
 refine SO_v hd (w':=w') (v:=v') ⟨fun a ha' _ _ _ _=>?_⟩ ((kk v').run w' (h2.set hU (fun b hb=>.inl (by show v.ownBlock = some b;simpa using hb)) hO ?_ (fun _ h=>h)))
 ·simp only [execOp,resolve]
  simp [ha'.ev hx,ha'.ev hy,invoke,builtin,hr]
 ·rintro b (hb' | hb' | hb')
  ·exact hW b hb'
  ·exact hb'.elim
  ·exact hb'.elim⟩
end
end Go.Art
namespace Go.Art
open Go Go.Proofs Go.RowKit
theorem dg_len_pos {n:Nat} (h:n ≠ 0):1 ≤ (dg n).length:=by
 cases h1:dg n with
 | nil=>exact absurd (dg_nil.1 h1) h
 | cons=>simp
theorem dg_mono {m n:Nat} (h:m ≤ n):(dg m).length ≤ (dg n).length:=(dg_len _ _).2 (Nat.lt_of_le_of_lt h ((dg_len n _).1 (Nat.le_refl _)))
theorem top_bounds {n:Nat} (h:n ≠ 0):(dg n).getD ((dg n).length - 1) 0 * 18446744073709551616 ^ ((dg n).length - 1) ≤ n∧n < ((dg n).getD ((dg n).length - 1) 0 + 1) * 18446744073709551616 ^ ((dg n).length - 1):=by
 have h0:=dg_len_pos h
 have h1:=nv_cut (dg n) ((dg n).length - 1)
 rw [nv_step,show (dg n).length - 1 + 1 = (dg n).length by omega,List.drop_eq_nil_of_le (Nat.le_refl _),nv_dg] at h1
 simp only [nv,Nat.mul_zero,Nat.add_zero] at h1
 have h2:=nv_low (Dg_dg n) ((dg n).length - 1)
 rw [Nat.mul_comm] at h1
 rw [Nat.add_mul,Nat.one_mul]
 omega
theorem div_case {N p V s a b:Nat} (hV:V = b * 2 ^ s) (hU:p + N * V = a * 2 ^ s) (hp:p < V):N = a / b∧p / 2 ^ s = a % b:=by
 have hg:0 < 2 ^ s:=Nat.pow_pos (by decide)
 have hdu:=div_up (a:=a) (y:=b) (p:=2 ^ s) hg
 rw [← hU,← hV] at hdu
 have h1:(p + N * V) / V = N:=by rw [Nat.add_mul_div_right _ _ (by omega),Nat.div_eq_of_lt hp,Nat.zero_add]
 have h2:(p + N * V) % V = p:=by rw [Nat.add_mul_mod_self_right,Nat.mod_eq_of_lt hp]
 rw [h1,h2] at hdu
 exact ⟨hdu.1,by rw [hdu.2];exact Nat.mul_div_cancel _ hg⟩
attribute [local irreducible] Fit pt own ro vw mpc lpt vels rels mow lrc dfr
abbrev DivR (na nb:Nat) (u:Value) (D:List Ch):Prop:=∃ q r,u = tup3 q r (I 0)∧q.oneCell' = true∧r.oneCell' = true∧D = [own T64 q (Us (dg (na / nb))),own T64 r (Us (dg (na % nb)))]
theorem DivLt_tr (va vb:Value) (a b:List Nat) (ha:Dg a) (hb:Dg b) (hla:a.length ≤ 549755813888) (hlb:b.length ≤ 549755813888) (hlt:nv a < nv b):Tr Tryz.prog 208 [va,vb] [vw va (Us a),vw vb (Us b)] [] (DivR (nv a) (nv b)):=by
 have hb0:(dg (nv b)).length ≠ 0:=by have:=dg_len_pos (n:=nv b) (by omega);omega
 have hc:cmpN (nv (dg (nv a))) (nv (dg (nv b))) < 0:=by rw [nv_dg,nv_dg,cmpN_lt];exact hlt
 have e1:nv a / nv b = 0:=Nat.div_eq_of_lt hlt
 have e2:nv a % nv b = nv a:=Nat.mod_eq_of_lt hlt
 unfold DivR
 rw [e1,e2,dg_zero]
 refine Tr.enter env _ Tryz.func208 (by kernel_rfl) rfl Tryz.ntmps208 rfl (by repeat (first | exact has00 | refine has01 ?_)) fun w0=>?_
 repeat' first|(refine gca ?_;first|(refine ca (Trim_tr va a ha (by omega)) ?_;rintro u1 _ ⟨hu1,rfl⟩)|(refine ca (Trim_tr vb b hb (by omega)) ?_;rintro u2 _ ⟨hu2,rfl⟩)|(refine ca (Cmp_tr u1 u2 _ _ (Dg_dg (nv a)) (Dg_dg (nv b))) ?_;rintro _ _ ⟨rfl,rfl⟩))|(refine wo ?_;first|(refine ao ?_;first|refine oa ?_)|refine oa ?_|refine lnm ?_)|(refine gc ?_;first|(refine ci (fun hB=>?_) (fun hB=>?_) <;> try (exfalso;omega)))|refine sq ?_|refine rg ?_|refine xc ?_|refine nl ?_|refine bk ?_|refine rt ?_
 refine TX.im (own_nil T64 _) ?_
 exact r3 ⟨_,_,rfl,rfl,hu1,rfl⟩
theorem DivOne_tr (va vb:Value) (a b:List Nat) (ha:Dg a) (hb:Dg b) (hla:a.length ≤ 549755813888) (hlb:b.length ≤ 549755813888) (hge:nv b ≤ nv a) (hb0:nv b ≠ 0) (hb1:nv b < 18446744073709551616):Tr Tryz.prog 208 [va,vb] [vw va (Us a),vw vb (Us b)] [] (DivR (nv a) (nv b)):=by
 have hc:¬ cmpN (nv (dg (nv a))) (nv (dg (nv b))) < 0:=by rw [nv_dg,nv_dg,cmpN_lt];omega
 have e1:dg (nv b) = [nv b]:=dg_one hb1 hb0
 have e2:(dg (nv b)).length = 1:=by rw [e1];rfl
 have e3:(dg (nv b)).getD 0 0 = nv b:=by rw [e1];rfl
 have hml:nv a % nv b < 18446744073709551616:=Nat.lt_trans (Nat.mod_lt _ (by omega)) hb1
 have hpl:=dg_len_le ha
 have hP:=fun u1=>Part_tr u1 (dg (nv a)) (nv b) (Dg_dg _) hb1 hb0 (by omega)
 unfold DivR
 simp only [nv_dg] at hP
 obtain ⟨rm,hrm⟩ : ∃ rm,rm = nv a % nv b:=⟨_,rfl⟩
 rw [← hrm] at hml ⊢
 simp only [← hrm] at hP
 refine Tr.enter env _ Tryz.func208 (by kernel_rfl) rfl Tryz.ntmps208 rfl (by repeat (first | exact has00 | refine has01 ?_)) fun w0=>?_
 repeat' first|(refine gca ?_;first|(refine ca (Trim_tr va a ha (by omega)) ?_;rintro u1 _ ⟨hu1,rfl⟩)|(refine ca (Trim_tr vb b hb (by omega)) ?_;rintro u2 _ ⟨hu2,rfl⟩)|(refine ca (Cmp_tr u1 u2 _ _ (Dg_dg (nv a)) (Dg_dg (nv b))) ?_;rintro _ _ ⟨rfl,rfl⟩)|(refine ca (hP u1) ?_;rintro _ _ ⟨q,rfl,hq,rfl⟩)|(refine ca (Of_tr rm hml) ?_;rintro r _ ⟨hr,rfl⟩))|refine lue e3 ?_|(refine wo ?_;first|(refine ao ?_;first|refine oa ?_)|refine oa ?_|refine lnm ?_|refine ixm ?_)|(refine gc ?_;first|(refine ci (fun hB=>?_) (fun hB=>?_) <;> try (exfalso;omega)))|refine sq ?_|refine rg ?_|refine xc ?_|refine nl ?_|refine bk ?_|refine rt ?_
 exact r3 ⟨_,_,rfl,hq,hr,rfl⟩
set_option maxHeartbeats 1000000 in
theorem DivMain_tr (va vb:Value) (a b:List Nat) (ha:Dg a) (hb:Dg b) (hla:a.length ≤ 549755813888) (hlb:b.length ≤ 549755813888) (hge:nv b ≤ nv a) (hb1:18446744073709551616 ≤ nv b):Tr Tryz.prog 208 [va,vb] [vw va (Us a),vw vb (Us b)] [] (DivR (nv a) (nv b)):=by
 have hc:¬ cmpN (nv (dg (nv a))) (nv (dg (nv b))) < 0:=by rw [nv_dg,nv_dg,cmpN_lt];omega
 have hb0:nv b ≠ 0:=by omega
 have hal:=dg_len_le ha
 have hbl:=dg_len_le hb
 have hba:=dg_mono hge
 obtain ⟨na,hna⟩ : ∃ na,na = nv a:=⟨_,rfl⟩
 obtain ⟨nb,hnb⟩ : ∃ nb,nb = nv b:=⟨_,rfl⟩
 have hTa:=fun h=>Trim_tr va a ha h
 have hTb:=fun h=>Trim_tr vb b hb h
 rw [← hna] at hge hal hba hTa hc ⊢
 rw [← hnb] at hge hb1 hb0 hbl hba hTb hc ⊢
 obtain ⟨x,hx⟩ : ∃ x,x = dg na:=⟨_,rfl⟩
 obtain ⟨y,hy⟩ : ∃ y,y = dg nb:=⟨_,rfl⟩
 have hxd:Dg x:=by rw [hx];exact Dg_dg _
 have hyd:Dg y:=by rw [hy];exact Dg_dg _
 have hy2:2 ≤ y.length:=by
  rcases Nat.lt_or_ge y.length 2 with h | h
  ·have:=(dg_len nb 1).1 (by rw [← hy];omega)
   omega
  ·exact h
 have hty:=Tm.top (Tm_dg nb) (by rw [← hy];omega)
 have htb:=top_bounds hb0
 have hnaL:=(dg_len na x.length).1 (by rw [hx];exact Nat.le_refl _)
 have hxl0:1 ≤ x.length:=by rw [hx];exact dg_len_pos (by omega)
 rw [← hx] at hal hba hTa hc
 rw [← hy] at hbl hba hTb hc hty htb
 have htd:y.getD (y.length - 1) 0 < 18446744073709551616:=hyd.getD _
 have hge2:((y.length:Int) - 1).toNat = y.length - 1:=by omega
 obtain ⟨top,htop⟩ : ∃ top,y.getD ((y.length:Int) - 1).toNat 0 = top:=⟨_,rfl⟩
 have htop2:=htop
 rw [hge2] at htop2
 rw [htop2] at hty htb htd
 obtain ⟨s,hs,hse,hV1,hV2⟩:=lz_ex top htd hty
 have hLZ:=LZ64_tr top htd
 rw [hse] at hLZ
 have hg:0 < 2 ^ s:=Nat.pow_pos (by decide)
 -- the divisor and the dividend,moved
 obtain ⟨V,hV⟩ : ∃ V,V = nb * 2 ^ s:=⟨_,rfl⟩
 obtain ⟨U,hU⟩ : ∃ U,U = na * 2 ^ s:=⟨_,rfl⟩
 have hUpV:=fun v1=>NUp_tr v1 nb s hs hb0 (by rw [← hy];omega)
 have hUpU:=fun v1=>NUp_tr v1 na s hs (by omega) (by rw [← hx];omega)
 rw [← hV] at hUpV
 rw [← hU] at hUpU
 simp only [← hy] at hUpV
 simp only [← hx] at hUpU
 have hVlow:9223372036854775808 * 18446744073709551616 ^ (y.length - 1) ≤ V:=by
  rw [hV]
  refine Nat.le_trans (Nat.mul_le_mul_right _ hV1) ?_
  rw [Nat.mul_right_comm]
  exact Nat.mul_le_mul_right _ htb.1
 have hVhigh:V < 18446744073709551616 ^ y.length:=by
  have h1:(top + 1) * 2 ^ s ≤ 18446744073709551616:=by
   have hsp:=pow_split (s:=s) (by omega)
   rw [← hsp] at hV2 ⊢
   have:=Nat.lt_of_mul_lt_mul_right hV2
   exact Nat.mul_le_mul_right _ this
  have h2:nb * 2 ^ s < (top + 1) * 18446744073709551616 ^ (y.length - 1) * 2 ^ s:=Nat.mul_lt_mul_of_pos_right htb.2 hg
  rw [hV]
  refine Nat.lt_of_lt_of_le h2 ?_
  rw [Nat.mul_right_comm]
  refine Nat.le_trans (Nat.mul_le_mul_right _ h1) ?_
  rw [Nat.mul_comm,← Nat.pow_succ]
  exact Nat.pow_le_pow_right (by decide) (by omega)
 have hs63:2 ^ s ≤ 9223372036854775808:=Nat.pow_le_pow_right (n:=2) (by decide) (show s ≤ 63 from hs)
 obtain ⟨v,hv⟩ : ∃ v,v = dg V:=⟨_,rfl⟩
 have hvn:nv v = V:=by rw [hv,nv_dg]
 have hvd:Dg v:=by rw [hv];exact Dg_dg _
 have hvl:v.length = y.length:=by
  refine Nat.le_antisymm ?_ ?_
  ·rw [hv];exact (dg_len _ _).2 hVhigh
  ·rcases Nat.lt_or_ge v.length y.length with h | h
   ·have h1:=(dg_len V (y.length - 1)).1 (by rw [← hv];omega)
    have h2:18446744073709551616 ^ (y.length - 1) ≤ 9223372036854775808 * 18446744073709551616 ^ (y.length - 1):=Nat.le_mul_of_pos_left _ (by decide)
    omega
   ·exact h
 have hvt:v.getD (v.length - 1) 0 ≠ 0:=by rw [hv];exact (Tm_dg V).top (by rw [← hv];omega)
 have hUhigh:U < 18446744073709551616 ^ x.length * 9223372036854775808:=by
  rw [hU];exact Nat.lt_of_lt_of_le (Nat.mul_lt_mul_of_pos_right hnaL hg) (Nat.mul_le_mul_left _ hs63)
 have hUl:(dg U).length ≤ x.length + 1:=(dg_len _ _).2 (by
  rw [Nat.pow_succ];exact Nat.lt_of_lt_of_le hUhigh (Nat.mul_le_mul_left _ (by decide)))
 obtain ⟨k,hk⟩ : ∃ k:Nat,(x.length:Int) + 1 - ((dg U).length:Int) = k:=⟨x.length + 1 - (dg U).length,by omega⟩
 obtain ⟨p,hp⟩ : ∃ p:Nat,(x.length:Int) - (y.length:Int) + 1 = p:=⟨x.length - y.length + 1,by omega⟩
 have hpl:p + y.length = x.length + 1:=by omega
 obtain ⟨us,hus⟩ : ∃ us,us = dg U ++ List.replicate k 0:=⟨_,rfl⟩
 have husn:nv us = U:=by rw [hus,nv_app,nv_rep,nv_dg,Nat.mul_zero,Nat.add_zero]
 have husd:Dg us:=by rw [hus];exact (Dg_dg _).app (Dg.rep _)
 have husl:us.length = x.length + 1:=by rw [hus,List.length_append,List.length_replicate];omega
 have husU:Us (dg U) ++ List.replicate k (Un 0) = Us us:=by rw [Us_rep,← Us_app,hus]
 have hstart:nv (us.drop p) < V:=by
  have h1:=nv_cut us p
  rw [husn] at h1
  have h2:18446744073709551616 ^ x.length * 9223372036854775808 = 18446744073709551616 ^ p * (9223372036854775808 * 18446744073709551616 ^ (y.length - 1)):=by
   rw [show x.length = p + (y.length - 1) by omega,Nat.pow_add,Nat.mul_assoc,Nat.mul_comm 9223372036854775808]
  rw [h2] at hUhigh
  have h3:18446744073709551616 ^ p * nv (us.drop p) < 18446744073709551616 ^ p * (9223372036854775808 * 18446744073709551616 ^ (y.length - 1)):=by omega
  exact Nat.lt_of_lt_of_le (Nat.lt_of_mul_lt_mul_left h3) hVlow
 obtain ⟨qs,hqs⟩ : ∃ qs,qs = List.replicate p 0:=⟨_,rfl⟩
 have hqsl:qs.length = p:=by rw [hqs,List.length_replicate]
 have hqsd:Dg qs:=by rw [hqs];exact Dg.rep _
 rw [← hv] at hUpV
 have hcase:=fun N q=>div_case (N:=N) (p:=q) (V:=V) (s:=s) (a:=na) (b:=nb) hV
 rw [← hU] at hcase
 have hxle:x.length ≤ 549755813888:=by omega
 have pk:Unit→(nv us = U∧nv v = V∧v.getD (v.length - 1) 0 ≠ 0∧V < 18446744073709551616 ^ y.length∧nv (us.drop p) < V):=fun _=>⟨husn,hvn,hvt,hVhigh,hstart⟩
 clear hUhigh hVlow htb hV1 hV2 hnaL hV hU hx hy hs63 hv hna hnb htop2 hty husn hvn hvt hVhigh hstart hg hse hge hb1 hb0
 refine Tr.enter env _ Tryz.func208 (by kernel_rfl) rfl Tryz.ntmps208 rfl (by repeat (first | exact has00 | refine has01 ?_)) fun w0=>?_
 repeat' first|(refine gca ?_;first|(refine ca (hTa (by omega)) ?_;rintro u1 _ ⟨hu1,rfl⟩)|(refine ca (hTb (by omega)) ?_;rintro u2 _ ⟨hu2,rfl⟩)|(refine ca (Cmp_tr u1 u2 x y hxd hyd) ?_;rintro _ _ ⟨rfl,rfl⟩)|(refine ca hLZ ?_;rintro _ _ ⟨rfl,rfl⟩)|(refine ca (hUpV u2) ?_;rintro _ _ ⟨vv,rfl,hvv,rfl⟩)|(refine ca (hUpU u1) ?_;rintro _ _ ⟨uu,rfl,huu,rfl⟩))|refine lue htop ?_|(refine aw ?_;rw [hk])|(refine aw ?_;rw [hp])|(refine apzo (k:=k) (xs:=Us (dg U)) (z:=Un 0) (hl:=by rw [Us_len];omega) fun o=>?_;rw [husU])|(refine mku fun qv=>?_;rw [Int.toNat_natCast,← hqs])|(refine wo ?_;first|(refine ao ?_;first|refine aw ?_|refine oa ?_)|refine oa ?_|refine lnm ?_|refine ixm ?_)|(refine gc ?_;first|(refine ci (fun hB=>?_) (fun hB=>?_) <;> try (exfalso;omega)))|refine sq ?_|refine rg ?_|refine xc ?_|refine nl ?_|refine sk ?_|refine bk ?_|refine xb ?_
 obtain ⟨husn,hvn,hvt,hVhigh,hstart⟩:=pk ()
 refine TC.loop (ι:=Int × List Nat × List Nat) (fun i=>[(16,I i.1)]) (fun i=>[own T64 o (Us i.2.1),own T64 qv (Us i.2.2)])
  (fun i=>i.2.1.length = x.length + 1∧i.2.2.length = p∧Dg i.2.1∧Dg i.2.2∧-1 ≤ i.1∧i.1 < p∧nv i.2.1 + 18446744073709551616 ^ (i.1 + 1).toNat * nv (i.2.2.drop (i.1 + 1).toNat) * V = U∧nv (i.2.1.drop (i.1 + 1).toNat) < V)
  (fun i=>(i.1 + 1).toNat) ((qs.length:Int) - 1,us,qs) [10,11,13,15] ⟨husl,hqsl,husd,hqsd,by dsimp only;omega,by dsimp only;omega,?_,?_⟩ ?_
 ·dsimp only
  rw [show ((qs.length:Int) - 1 + 1).toNat = qs.length by omega,List.drop_eq_nil_of_le (Nat.le_refl _),husn];simp [nv]
 ·dsimp only
  rw [show ((qs.length:Int) - 1 + 1).toNat = p by omega];exact hstart
 clear hstart hUpV hUpU hLZ hTa hTb hc husU hus husn husd husl hqs hqsl hqsd htop hk hp hge2 hUl hal hbl hxl0 pk hla hlb
 rintro ⟨ji,ys,ws⟩ ⟨h1,h2,h3,h4,h5,h6,hI,hR⟩
 dsimp only at h1 h2 h3 h4 h5 h6 hI hR ⊢
 by_cases hj:0 ≤ ji
 ·obtain ⟨j,rfl⟩ : ∃ j:Nat,ji = j:=⟨ji.toNat,by omega⟩
  rw [show ((j:Int) + 1).toNat = j + 1 by omega] at hI hR
  have hjl:j + v.length + 1 ≤ ys.length:=by omega
  have hVb:V < 18446744073709551616 ^ v.length:=by rw [hvl];exact hVhigh
  have hz:nv (ys.drop (j + v.length + 1)) = 0:=by
   have h:=nv_cut (ys.drop (j + 1)) v.length
   rw [List.drop_drop,show j + 1 + v.length = j + v.length + 1 by omega] at h
   rcases Nat.eq_zero_or_pos (nv (ys.drop (j + v.length + 1))) with h0 | h0
   ·exact h0
   ·have:=Nat.mul_le_mul_left (18446744073709551616 ^ v.length) h0
    omega
  have hW:=win_facts (ys:=ys) (j:=j) (n:=v.length) hjl
  have hWd:nv (ys.drop j) = nv ((ys.take (j + v.length + 1)).drop j):=by
   have h:=nv_cut (ys.drop j) (v.length + 1)
   rw [List.drop_drop,List.take_drop,show j + (v.length + 1) = j + v.length + 1 by omega,hz,Nat.mul_zero,Nat.add_zero] at h
   exact h
  have hys:=nv_step ys j
  have hyj:=h3.getD j
  have hwB:nv ((ys.take (j + v.length + 1)).drop j) < nv v * 18446744073709551616:=by
   rw [← hWd,hys,hvn]
   have:=Nat.mul_le_mul_left 18446744073709551616 hR
   rw [Nat.mul_succ,Nat.mul_comm _ V] at this
   omega
  have hst:=step_tr o vv ys v j h3 hvd (by omega) hvt hjl (by omega) hwB
  rw [hvn] at hst
  obtain ⟨w,hw⟩ : ∃ w,w = nv ((ys.take (j + v.length + 1)).drop j):=⟨_,rfl⟩
  rw [← hw] at hst hW hWd
  have hV0:0 < V:=by omega
  have hrl:(dg (w % V)).length ≤ v.length + 1:=Nat.le_trans ((dg_len _ _).2 (Nat.lt_trans (Nat.mod_lt _ hV0) hVb)) (by omega)
  obtain ⟨s1,s2,s3,s4⟩:=stepL_facts hrl hjl h3 (Dg_dg (w % V))
  rw [hz,Nat.mul_zero,Nat.add_zero,nv_dg] at s3 s4
  rw [hz,Nat.mul_zero,Nat.add_zero] at hW
  have hq:=nv_set_drop ws j (w / V) (by omega)
  have hqb:w / V < 18446744073709551616:=by
   rw [Nat.div_lt_iff_lt_mul hV0,Nat.mul_comm,← hvn,hw];exact hwB
  have hmV:w % V < V:=Nat.mod_lt _ hV0
  have hfin:nv (stepL ys j v.length (dg (w % V))) + 18446744073709551616 ^ j * nv ((ws.set j (w / V)).drop j) * V = U:=by
   have h:=Nat.div_add_mod w V
   rw [s3,hq,← hI,hW,Nat.pow_succ]
   rw [Nat.mul_add,Nat.add_mul,show 18446744073709551616 ^ j * (18446744073709551616 * nv (ws.drop (j + 1))) * V = 18446744073709551616 ^ j * 18446744073709551616 * nv (ws.drop (j + 1)) * V by ac_rfl]
   have h':=congrArg (18446744073709551616 ^ j * ·) h
   simp only [Nat.mul_add] at h'
   rw [show 18446744073709551616 ^ j * (w / V) * V = 18446744073709551616 ^ j * (V * (w / V)) by ac_rfl]
   omega
  obtain ⟨qd,hqd⟩ : ∃ qd,qd = w / V:=⟨_,rfl⟩
  obtain ⟨zs,hzs⟩ : ∃ zs,zs = stepL ys j v.length (dg (w % V)):=⟨_,rfl⟩
  rw [← hqd] at hst hfin hqb
  rw [← hzs] at hst hfin s1 s2 s4
  have pk2:Unit→(nv zs + 18446744073709551616 ^ j * nv ((ws.set j qd).drop j) * V = U∧nv (zs.drop j) < V):=fun _=>⟨hfin,by rw [s4];exact hmV⟩
  clear hqd hzs hq s3 hrl hw hW hWd hys hwB hz hI hR hVb hvt hfin s4 hmV hVhigh hvn hV0 hyj
  repeat' first|(refine gca ?_;first|(refine ca hst ?_;rintro _ _ ⟨rfl,rfl⟩))|refine sou ?_|(refine aw ?_;rw [show (j:Int) + (v.length:Int) + 1 = ((j + v.length + 1:Nat):Int) by omega])|(refine wo ?_;first|(refine ao ?_;first|refine aw ?_|refine oa ?_)|refine oa ?_|refine lnm ?_|refine ixmn ?_|refine scm ?_)|(refine gc ?_;first|refine ct ?_)|refine sq ?_|refine rg ?_|refine xc ?_|refine nl ?_|refine sk ?_|refine bk ?_|refine xb ?_
  exact lp ((j:Int) - 1,zs,ws.set j qd) ⟨by dsimp only;omega,by dsimp only;rw [List.length_set];exact h2,s2,h4.set hqb,by dsimp only;omega,by dsimp only;omega,by dsimp only;rw [show ((j:Int) - 1 + 1).toNat = j by omega];exact (pk2 ()).1,by dsimp only;rw [show ((j:Int) - 1 + 1).toNat = j by omega];exact (pk2 ()).2⟩
 ·obtain rfl:ji = -1:=by omega
  rw [show ((-1:Int) + 1).toNat = 0 from rfl,List.drop_zero,Nat.pow_zero,Nat.one_mul] at hI
  rw [show ((-1:Int) + 1).toNat = 0 from rfl,List.drop_zero] at hR
  obtain ⟨c1,c2⟩:=hcase _ _ hI hR
  unfold DivR
  rw [← c1,← c2]
  have hyl:=dg_len_le h3
  have hDn:=fun v1=>NDown_tr v1 (dg (nv ys)) s hs (Dg_dg _) (by omega)
  simp only [nv_dg] at hDn
  repeat' first|(refine gca ?_;first|(refine ca (Trim_tr o ys h3 (by omega)) ?_;rintro o2 _ ⟨ho2,rfl⟩)|(refine ca (Trim_tr qv ws h4 (by omega)) ?_;rintro q2 _ ⟨hq2,rfl⟩)|(refine ca (hDn o2) ?_;rintro _ _ ⟨lf,rfl,hlf,rfl⟩))|(refine wo ?_;first|(refine ao ?_;first|refine oa ?_)|refine oa ?_)|(refine gc ?_;first|refine cf ?_)|refine sq ?_|refine rg ?_|refine xc ?_|refine nl ?_|refine xe ?_|refine rt ?_
  exact r3 ⟨q2,lf,rfl,hq2,hlf,rfl⟩
end Go.Art
namespace Go.Art
open Go Go.Proofs Go.RowKit
attribute [local irreducible] Fit pt own ro vw mpc lpt vels rels mow lrc dfr
theorem NDiv_tr (va vb:Value) (a b:List Nat) (ha:Dg a) (hb:Dg b) (hla:a.length ≤ 549755813888) (hlb:b.length ≤ 549755813888) (hb0:nv b ≠ 0):Tr Tryz.prog 208 [va,vb] [vw va (Us a),vw vb (Us b)] [] (DivR (nv a) (nv b)):=by
 rcases Nat.lt_or_ge (nv a) (nv b) with h | h
 ·exact DivLt_tr va vb a b ha hb hla hlb h
 ·rcases Nat.lt_or_ge (nv b) 18446744073709551616 with h1 | h1
  ·exact DivOne_tr va vb a b ha hb hla hlb h hb0 h1
  ·exact DivMain_tr va vb a b ha hb hla hlb h h1
theorem NGcd_tr (va vb:Value) (a b:List Nat) (ha:Dg a) (hb:Dg b) (hla:a.length ≤ 549755813888) (hlb:b.length ≤ 549755813888):Tr Tryz.prog 155 [va,vb] [vw va (Us a),vw vb (Us b)] [] fun u D=>u.oneCell' = true∧D = [own T64 u (Us (dg (Nat.gcd (nv a) (nv b))))]:=by
 have h1:=dg_len_le ha
 have h2:=dg_len_le hb
 obtain ⟨na,hna⟩ : ∃ na,na = nv a:=⟨_,rfl⟩
 obtain ⟨nb,hnb⟩ : ∃ nb,nb = nv b:=⟨_,rfl⟩
 have hTa:=Trim_tr va a ha (by omega)
 have hTb:=Trim_tr vb b hb (by omega)
 rw [← hna] at h1 hTa ⊢
 rw [← hnb] at h2 hTb ⊢
 clear hna hnb
 refine Tr.enter env _ Tryz.func155 (by kernel_rfl) rfl Tryz.ntmps155 rfl (by repeat (first | exact has00 | refine has01 ?_)) fun w0=>?_
 repeat' first|(refine gca ?_;first|(refine ca hTa ?_;rintro u1 _ ⟨hu1,rfl⟩)|(refine ca hTb ?_;rintro u2 _ ⟨hu2,rfl⟩))|(refine wo ?_;first|refine oa ?_)|refine sq ?_|refine rg ?_|refine xc ?_|refine nl ?_|refine bk ?_
 refine TC.loop (ι:=Nat × Nat × Value × Value) (fun k=>[(0,k.2.2.1),(1,k.2.2.2)]) (fun k=>[own T64 k.2.2.1 (Us (dg k.1)),own T64 k.2.2.2 (Us (dg k.2.1))]) (fun k=>(dg k.1).length ≤ 549755813888∧(dg k.2.1).length ≤ 549755813888∧Nat.gcd k.1 k.2.1 = Nat.gcd na nb∧k.2.2.1.oneCell' = true∧k.2.2.2.oneCell' = true) (fun k=>k.2.1) (na,nb,u1,u2) [] ⟨by dsimp only;omega,by dsimp only;omega,rfl,hu1,hu2⟩ ?_
 rintro ⟨p,q,v1,v2⟩ ⟨g1,g2,g3,g4,g5⟩
 dsimp only at g1 g2 g3 g4 g5 ⊢
 by_cases hq:q = 0
 ·subst hq
  have hl:(dg 0).length = 0:=by rw [dg_zero];rfl
  rw [Nat.gcd_zero_right] at g3
  rw [← g3]
  repeat' first|(refine wo ?_;first|(refine ao ?_;first|refine oa ?_)|refine oa ?_|refine lnm ?_)|(refine gc ?_;first|(refine ci (fun hB=>?_) (fun hB=>?_) <;> try (exfalso;omega)))|refine sq ?_|refine rg ?_|refine xc ?_|refine nl ?_|refine xe ?_|refine rt ?_
  exact r1 ⟨g4,rfl⟩
 ·have hl:=dg_len_pos hq
  have hD:=NDiv_tr v1 v2 (dg p) (dg q) (Dg_dg p) (Dg_dg q) g1 g2 (by rw [nv_dg];exact hq)
  rw [nv_dg,nv_dg] at hD
  have hm:p % q < q:=Nat.mod_lt _ (by omega)
  have hml:=Nat.le_trans (dg_mono (Nat.le_of_lt hm)) g2
  have hg:Nat.gcd q (p % q) = Nat.gcd na nb:=by rw [← g3,Nat.gcd_comm p q,Nat.gcd_rec q p,Nat.gcd_comm]
  obtain ⟨r,hr⟩ : ∃ r,r = p % q:=⟨_,rfl⟩
  unfold DivR at hD
  rw [← hr] at hm hml hg hD
  repeat' first|(refine gca ?_;first|(refine ca hD ?_;rintro _ _ ⟨qv,rv,rfl,hqv,hrv,rfl⟩))|(refine wo ?_;first|(refine ao ?_;first|refine oa ?_)|refine oa ?_|refine lnm ?_)|(refine gc ?_;first|(refine ci (fun hB=>?_) (fun hB=>?_) <;> try (exfalso;omega)))|refine sq ?_|refine rg ?_|refine xc ?_|refine nl ?_|refine sk ?_|refine bk ?_|refine xb ?_
  exact lp (q,r,v2,rv) ⟨g2,hml,hg,g5,hrv⟩
end Go.Art
namespace Go.Art
open Go Go.Proofs Go.RowKit
def setPartsF (pf:Nat→Option (Nat × Nat)):List Value→List (Nat × Value)→Option (List Value)
 | cs,[]=>some cs
 | cs,(i,v) :: r=>match pf i with
  | some (off,sz)=>bif Nat.beq v.cells.size sz && Nat.ble (off + sz) cs.length then setPartsF pf (cs.take off ++ v.cells.toList ++ cs.drop (off + sz)) r else none
  | none=>none
theorem fill_partsF {pf:Nat→Option (Nat × Nat)}:∀ {vs:List (Nat × Value)} {cs cs':List Value},setPartsF pf cs vs = some cs'→Instr.fill pf cs.toArray vs = some cs'.toArray
 | [],cs,cs',h=>by simp [setPartsF] at h;simp [Instr.fill,h]
 | (i,v) :: r,cs,cs',h=>by
  simp only [setPartsF] at h
  cases hp:pf i with
  | none=>rw [hp] at h;cases h
  | some q=>
   obtain ⟨off,sz⟩:=q
   rw [hp] at h
   simp only at h
   by_cases hc:(Nat.beq v.cells.size sz && Nat.ble (off + sz) cs.length) = true
   ·rw [hc,cond_true] at h
    simp only [Bool.and_eq_true] at hc
    have h1:=Nat.eq_of_beq_eq_true hc.1
    have h2:=Nat.le_of_ble_eq_true hc.2
    simp only [Instr.fill,hp]
    have hx1:¬ ((decide (v.cells.size ≠ sz) || decide (off + v.cells.size > cs.toArray.size)) = true):=by simp [h1];omega
    rw [if_neg hx1]
    have hf:(v.cells.zipIdx.foldl (fun cs (x:Value × Nat)=>cs.setIfInBounds (off + x.2) x.1) cs.toArray) = (cs.take off ++ v.cells.toList ++ cs.drop (off + sz)).toArray:=by
     have:=foldl_set v.cells.toList off 0 cs.toArray (by simp;omega)
     simp only [Nat.add_zero] at this
     rw [← Array.foldl_toList,Array.toList_zipIdx,this]
     simp [h1]
    show Instr.fill _ (v.cells.zipIdx.foldl (fun cs (x:Value × Nat)=>cs.setIfInBounds (off + x.2) x.1) cs.toArray) r = _
    rw [hf]
    exact fill_partsF h
   ·have:(Nat.beq v.cells.size sz && Nat.ble (off + sz) cs.length) = false:=by simpa only [Bool.not_eq_true] using hc
    rw [this,cond_false] at h;cases h
section
variable {P:Program} {E:Env P} {n:Sh} {X:Cx} {s:List K} {fr:Fr} {A A':List Ch} {ops:Array Oper} {rest:List Oper} {d m sz sz1 by_ by1:Nat} {ty t t' el:TypeId} {pos:String} {after:Array Edge} {x y:Operand} {w:World} {cs zs vs:List Value} {v z:Value} {parts:List (Nat × Operand)} {ps:List (Nat × Value)} {dt:TypeDesc} {i:Int} {k1:IntKind}
theorem R_buildArr (ht:lk E.und t = some (.array m el)) (he:lk E.inf t = some (.agg zs.toArray,sz,by_)) (h1:lk E.inf el = some (z,sz1,by1)) (hv:evps fr parts = some ps) (hs:setPartsF (fun i=>some (i * sz1,sz1)) zs ps = some cs):OpV P n fr (.build t parts.toArray) ty w (.agg cs.toArray) w:=⟨fun a ha _ _ _ _=>by
 obtain ⟨inf,hi,hz,_,_⟩:=E.info he
 obtain ⟨inf1,hi1,_,hz1,_⟩:=E.info h1
 have h2:=ha.evps hv
 have h3:=fill_partsF hs
 have hb:(Instr.build t (ps.toArray)).run P w = .ok (.agg cs.toArray) w:=by
  unfold Instr.build
  simp [zeroValue,typeInfo,run_underlying (P:=P) (E.un ht),hi,hz,Value.cells,sizeOf,hi1,hz1,h3]
 simp only [execOp]
 show Sem.run P (do let v ← Instr.build t ((parts.toArray.map fun (p:Nat × Operand)=>(p.1,a.eval p.2)));pure (Next.value v)) w = _
 rw [List.map_toArray,h2]
 simp [hb]⟩
theorem R_index1 (ht:lk E.und t = some (.array m el)) (hdt:lk E.und el = some dt) (hg:aggB dt = false) (h1:lk E.inf el = some (z,1,by1)) (hx:ev fr x = some (.agg cs.toArray)) (hy:ev fr y = some (.int k1 i)) (hi:0 ≤ i∧i < m) (hv:cs[i.toNat]? = some v) :
  OpV P n fr (.index t x y) ty w v w:=⟨fun a ha _ _ _ _=>by
 obtain ⟨inf1,hi1,_,hz1,_⟩:=E.info h1
 simp only [execOp,ha.ev hx,ha.ev hy]
 simp [Instr.index,asIntOf,run_underlying (P:=P) (E.un ht),hi,part,aggB_run (w:=w) hdt hg,sizeOf,typeInfo,hi1,hz1,hv]⟩
theorem bda (k:TO E n X s ops rest ((d,.agg cs.toArray) :: fr) A) (hv:evps fr parts = some ps:=by rfl) (ht:lk E.und t = some (.array m el):=by rfl) (he:lk E.inf t = some (.agg zs.toArray,sz,by_):=by rfl) (h1:lk E.inf el = some (z,sz1,by1):=by rfl)
  (hs:setPartsF (fun i=>some (i * sz1,sz1)) zs ps = some cs:=by rfl) (hd:Nat.blt d n.n = true:=by rfl):TO E n X s ops (⟨some d,.build t parts.toArray,ty,pos,after,none⟩ :: rest) fr A:=TO.val (fun _ _=>R_buildArr ht he h1 hv hs) k hd
end
section
variable {P:Program} {E:Env P} {n:Sh} {X:Cx} {s:List K} {fr:Fr} {A:List Ch} {ops:Array Oper} {rest:List Oper} {d:Nat} {ty:TypeId} {pos:String} {after:Array Edge} {v:Value} {f:FuncId} {g:Operand} {cap:Array Value} {args:List Operand} {ats:Array TypeId} {vs:List Value} {pre:List Ch} {R:Value→List Ch→Prop}
end
end Go.Art
namespace Go.Art
open Go Go.Proofs Go.RowKit
abbrev TIt:TypeId:=33
abbrev IR (z:Int) (u:Value) (D:List Ch):Prop:=∃ o,u = .agg #[.bool (decide (z < 0)),o]∧o.oneCell' = true∧D = [own T64 o (Us (dg z.natAbs))]
def sg (b:Bool) (n:Nat):Int:=if b then -(n:Int) else n
theorem sg_abs (b:Bool) (n:Nat):(sg b n).natAbs = n:=by unfold sg;split <;> omega
theorem sg_neg (b:Bool) (n:Nat):decide (sg b n < 0) = (b && decide (0 < n)):=by
 unfold sg
 cases b
 ·simp
 ·simp
attribute [local irreducible] Fit pt own ro vw mpc lpt vels rels mow lrc dfr
theorem IMake_tr (b:Bool) (v:Value) (l:List Nat) (hd:Dg l) (hl:l.length ≤ 1099511627776):Tr Tryz.prog 76 [.bool b,v] [vw v (Us l)] [] (IR (sg b (nv l))):=by
 have hlp:0 < (dg (nv l)).length ↔ 0 < nv l:=⟨fun h=>Nat.pos_of_ne_zero fun e=>by rw [e,dg_zero] at h;simp at h,fun h=>dg_len_pos (by omega)⟩
 have hll:=dg_len_le hd
 unfold IR
 rw [sg_abs,sg_neg]
 refine Tr.enter env _ Tryz.func76 (by kernel_rfl) rfl Tryz.ntmps76 rfl (by repeat (first | exact has00 | refine has01 ?_)) fun w0=>?_
 repeat' first|(refine gca ?_;first|(refine ca (Trim_tr v l hd (by omega)) ?_;rintro o _ ⟨ho,rfl⟩))|refine al fun c=>?_|refine bdz ?_|refine srz ?_|refine lda ?_|(refine wo ?_;first|(refine ao ?_;first|refine oa ?_)|refine oa ?_|refine ld ?_|refine lnm ?_|refine sr ?_|refine gy ?_|refine gn ?_|(refine gs (fun hB=>?_) (fun hB=>?_) <;> try (exfalso;omega)))|refine sq ?_|refine rg ?_|refine xc ?_|refine nl ?_|refine rt ?_
 ·rename_i b0;subst hB
  exact rca1 (b:=b0) (cs:=[.bool (decide (0 < ((dg (nv l)).length:Int))),o]) (vs:=[.bool (decide (0 < ((dg (nv l)).length:Int))),o]) (T:=TIt) ⟨o,by simp [hlp],ho,rfl⟩
 ·rename_i b0;subst hB
  exact rca1 (b:=b0) (cs:=[.bool false,o]) (vs:=[.bool false,o]) (T:=TIt) ⟨o,rfl,ho,rfl⟩
end Go.Art
namespace Go.Art
open Go Go.Proofs Go.RowKit
abbrev iv (z:Int) (o:Value):Value:=.agg #[.bool (decide (z < 0)),o]
abbrev dz (z:Int):List Nat:=dg z.natAbs
theorem ifc {α:Type} {p q:Prop} [Decidable p] [Decidable q] (h:p ↔ q) (a b:α):(if p then a else b) = if q then a else b:=by
 by_cases hp:p
 ·rw [if_pos hp,if_pos (h.1 hp)]
 ·rw [if_neg hp,if_neg fun hq=>hp (h.2 hq)]
theorem dg_len1 {n:Nat} (h:n < 18446744073709551616):(dg n).length ≤ 1:=(dg_len n 1).2 (by simpa using h)
attribute [local irreducible] Fit pt own ro vw mpc lpt vels rels mow lrc dfr
theorem IOf_tr (x:Nat) (hx:x < 9223372036854775808):Tr Tryz.prog 74 [I x] [] [] (IR (x:Int)):=by
 have h1:=dg_len1 (n:=x) (by omega)
 have hM:=fun o=>IMake_tr false o (dg x) (Dg_dg x) (by omega)
 have hs:sg false x = (x:Int):=rfl
 simp only [nv_dg,hs] at hM
 unfold IR at hM ⊢
 refine Tr.enter env _ Tryz.func74 (by kernel_rfl) rfl Tryz.ntmps74 rfl (by repeat (first | exact has00 | refine has01 ?_)) fun w0=>?_
 repeat' first|(refine gca ?_;first|(refine ca (Of_tr x (by omega)) ?_;rintro o _ ⟨ho,rfl⟩)|(refine ca (hM o) ?_;rintro _ _ ⟨o2,rfl,ho2,rfl⟩))|refine al fun c=>?_|refine srz ?_|(refine wo ?_;first|(refine ao ?_;first|refine oa ?_)|refine ntu ?_|refine oa ?_)|(refine gc ?_;first|refine cf ?_)|refine sq ?_|refine rg ?_|refine xc ?_|refine nl ?_|refine sk ?_|refine rt ?_
 exact rca1 (cs:=[.bool (decide ((x:Int) < 0)),o2]) (vs:=[.bool (decide ((x:Int) < 0)),o2]) (T:=TIt) ⟨o2,rfl,ho2,rfl⟩
theorem ICheck_tr (b:Bool) (o:Value) (l:List Nat):Tr Tryz.prog 130 [.agg #[.bool b,o]] [vw o (Us l)] [] fun u D=>u = I (if (b = true∧l.length = 0)∨(0 < l.length∧l.getD (l.length - 1) 0 = 0) then 6 else 0)∧D = []:=by
 have hC:=Check_tr o l
 obtain ⟨c,hc⟩ : ∃ c:Int,c = (if 0 < l.length∧l.getD (l.length - 1) 0 = 0 then 6 else 0):=⟨_,rfl⟩
 rw [← hc] at hC
 refine Tr.enter env _ Tryz.func130 (by kernel_rfl) rfl Tryz.ntmps130 rfl (by repeat (first | exact has00 | refine has01 ?_)) fun w0=>?_
 repeat' first|(refine gca ?_;first|(refine ca hC ?_;rintro _ _ ⟨rfl,rfl⟩))|refine bx fun q=>?_|refine lda ?_|(refine wo ?_;first|(refine ao ?_;first|refine oa ?_)|refine oa ?_|refine ld ?_|refine lnm ?_|refine gy ?_|refine gn ?_|(refine gs (fun hB=>?_) (fun hB=>?_) <;> try (exfalso;omega)))|(refine gc ?_;first|refine cf ?_|(refine ci (fun hB=>?_) (fun hB=>?_) <;> try (exfalso;omega)))|refine sq ?_|refine rg ?_|refine xc ?_|refine nl ?_|refine sk ?_|refine rt ?_
 ·exact r1 ⟨by rw [if_pos (.inl ⟨by assumption,by omega⟩)],rfl⟩
 ·exact r1 ⟨(congrArg I hc).trans (congrArg I (ifc ⟨.inr,fun h=>h.resolve_left fun k=>by omega⟩ _ _)),rfl⟩
 ·exact r1 ⟨(congrArg I hc).trans (congrArg I (ifc ⟨.inr,fun h=>h.resolve_left fun k=>by rw [hB] at k;cases k.1⟩ _ _)),rfl⟩
theorem by_tr (va vb:Value) (a b:List Nat) (ha:Dg a) (hb:Dg b) (hla:a.length ≤ 549755813888) (hlb:b.length ≤ 549755813888) (hb0:nv b ≠ 0):Tr Tryz.prog 183 [va,vb] [vw va (Us a),vw vb (Us b)] [] fun u D=>u.oneCell' = true∧D = [own T64 u (Us (dg (nv a / nv b)))]:=by
 have hD:=NDiv_tr va vb a b ha hb hla hlb hb0
 obtain ⟨m,hm⟩ : ∃ m,m = nv a / nv b:=⟨_,rfl⟩
 unfold DivR at hD
 simp only [← hm] at hD
 rw [← hm]
 refine Tr.enter env _ Tryz.func183 (by kernel_rfl) rfl Tryz.ntmps183 rfl (by repeat (first | exact has00 | refine has01 ?_)) fun w0=>?_
 repeat' first|(refine gca ?_;first|(refine ca hD ?_;rintro _ _ ⟨qv,rv,rfl,hqv,hrv,rfl⟩))|(refine wo ?_;first|refine oa ?_)|refine sq ?_|refine rg ?_|refine xc ?_|refine nl ?_|refine rt ?_
 exact r1 ⟨hqv,rfl⟩
end Go.Art
namespace Go.Art
open Go Go.Proofs Go.RowKit
abbrev TRt:TypeId:=35
abbrev rv (q:Rat) (vn vd:Value):Value:=.agg #[.bool (decide (q.num < 0)),vn,vd]
abbrev FQ (q:Rat) (u:Value) (D:List Ch):Prop:=∃ vn vd,u = rv q vn vd∧vn.oneCell' = true∧vd.oneCell' = true∧D = [own T64 vn (Us (dg q.num.natAbs)),own T64 vd (Us (dg q.den))]
abbrev rv0:Value:=.agg #[.bool false,nS,nS]
theorem mk_num (z:Int) {m:Nat} (hm:m ≠ 0):(mkRat z m).num = z / (Nat.gcd z.natAbs m:Nat):=by
 rw [Rat.mkRat_def,dif_neg hm,Rat.normalize_eq]
theorem mk_den (z:Int) {m:Nat} (hm:m ≠ 0):(mkRat z m).den = m / Nat.gcd z.natAbs m:=by
 rw [Rat.mkRat_def,dif_neg hm,Rat.normalize_eq]
theorem natAbs_div (z:Int) (g:Nat) (h:(g:Int) ∣ z):(z / (g:Int)).natAbs = z.natAbs / g:=by
 obtain ⟨c,rfl⟩:=h
 by_cases hg:g = 0
 ·subst hg;simp
 ·rw [Int.mul_ediv_cancel_left _ (by omega),Int.natAbs_mul,Int.natAbs_natCast,Nat.mul_div_cancel_left _ (by omega)]
theorem mk_abs (z:Int) {m:Nat} (hm:m ≠ 0):(mkRat z m).num.natAbs = z.natAbs / Nat.gcd z.natAbs m:=by
 rw [mk_num z hm,natAbs_div]
 exact Int.ofNat_dvd_left.2 (Nat.gcd_dvd_left _ _)
theorem mk_neg (z:Int) {m:Nat} (hm:m ≠ 0):(mkRat z m).num < 0 ↔ z < 0:=by
 have hg:0 < Nat.gcd z.natAbs m:=Nat.gcd_pos_of_pos_right _ (by omega)
 rw [mk_num z hm]
 constructor
 ·intro h
  rcases Int.lt_or_le z 0 with h1 | h1
  ·exact h1
  ·have:=Int.ediv_nonneg h1 (Int.natCast_nonneg (Nat.gcd z.natAbs m));omega
 ·intro h;exact Int.ediv_neg_of_neg_of_pos h (by omega)
theorem sg_mk (b:Bool) (n:Nat) {m:Nat} (hm:m ≠ 0):decide ((mkRat (sg b n) m).num < 0) = (b && decide (0 < n / Nat.gcd n m)):=by
 have hg:0 < Nat.gcd n m:=Nat.gcd_pos_of_pos_right _ (by omega)
 rw [decide_eq_decide.2 (mk_neg _ hm),sg_neg]
 congr 1
 refine decide_eq_decide.2 ⟨fun h=>Nat.div_pos (Nat.le_of_dvd h (Nat.gcd_dvd_left _ _)) hg,fun h=>?_⟩
 rcases Nat.eq_zero_or_pos n with h0 | h0
 ·subst h0;simp at h
 ·exact h0
theorem dg_le {l:List Nat} (hd:Dg l) {n:Nat} (h:n ≤ nv l):(dg n).length ≤ l.length:=Nat.le_trans (dg_mono h) (dg_len_le hd)
attribute [local irreducible] Fit pt own ro vw mpc lpt vels rels mow lrc dfr
theorem lowest_tr (b:Bool) (o dv:Value) (l m:List Nat) (hl:Dg l) (hm:Dg m) (hll:l.length ≤ 68719476736) (hlm:m.length ≤ 68719476736) (hm0:nv m ≠ 0) :
  Tr Tryz.prog 123 [.agg #[.bool b,o],dv] [vw o (Us l),vw dv (Us m)] [] (FQ (mkRat (sg b (nv l)) (nv m))):=by
 have e1:=mk_abs (sg b (nv l)) hm0
 have e2:=mk_den (sg b (nv l)) hm0
 have e3:=sg_mk b (nv l) hm0
 rw [sg_abs] at e1 e2
 have hg0:Nat.gcd (nv l) (nv m) ≠ 0:=Nat.ne_of_gt (Nat.gcd_pos_of_pos_right _ (by omega))
 have hgl:(dg (Nat.gcd (nv l) (nv m))).length ≤ m.length:=dg_le hm (Nat.gcd_le_right _ (by omega))
 have hB1:=fun g=>by_tr o g l (dg (Nat.gcd (nv l) (nv m))) hl (Dg_dg _) (by omega) (by omega) (by rw [nv_dg];exact hg0)
 have hB2:=fun g=>by_tr dv g m (dg (Nat.gcd (nv l) (nv m))) hm (Dg_dg _) (by omega) (by omega) (by rw [nv_dg];exact hg0)
 have hG:=NGcd_tr o dv l m hl hm (by omega) (by omega)
 have hql:(dg (nv l / Nat.gcd (nv l) (nv m))).length ≤ l.length:=dg_le hl (Nat.div_le_self _ _)
 have hM:=fun u=>IMake_tr b u (dg (nv l / Nat.gcd (nv l) (nv m))) (Dg_dg _) (by omega)
 simp only [nv_dg] at hB1 hB2 hM
 unfold IR at hM
 simp only [sg_abs,sg_neg] at hM
 simp only [← e3] at hM
 rw [← e2] at hB2
 rw [← e1] at hB1 hM
 obtain ⟨q,hq⟩ : ∃ q,q = mkRat (sg b (nv l)) (nv m):=⟨_,rfl⟩
 obtain ⟨g,hgg⟩ : ∃ g,g = Nat.gcd (nv l) (nv m):=⟨_,rfl⟩
 rw [← hq] at hB1 hB2 hM ⊢
 rw [← hgg] at hB1 hB2 hG
 clear e1 e2 e3 hg0 hgl hql hq hgg
 refine Tr.enter env _ Tryz.func123 (by kernel_rfl) rfl Tryz.ntmps123 rfl (by repeat (first | exact has00 | refine has01 ?_)) fun w0=>?_
 repeat' first|(refine gca ?_;first|(refine ca hG ?_;rintro gv _ ⟨hgv,rfl⟩))|refine bx fun q1=>?_|refine al fun c=>?_|(refine wo ?_;first|refine oa ?_|refine ld ?_)|refine sq ?_|refine rg ?_|refine xc ?_|refine nl ?_
 refine rs (fun w=>w.heap[q1]? = some (.cells [.bool b,o].toArray TIt (0,0))) ?_ (fun w hw=>pt_at memA hw)
 refine tka 0 ?_
 refine tkl 1 (cs:=[.bool b,o]) (fun w h=>h) ?_
 refine tka 2 ?_
 refine tkl 3 (cs:=[.bool b,o]) (fun w h=>h) ?_
 refine tka 4 ?_
 refine tka 7 ?_
 refine tka 8 ?_
 refine t1 5 ?_
 refine ca (hB1 gv) ?_
 rintro u1 _ ⟨hu1,rfl⟩
 refine nl ?_
 refine te (fun w hw=>pt_at memA hw) ?_
 refine t1 6 ?_
 refine ca (hM u1) ?_
 rintro _ _ ⟨u2,rfl,hu2,rfl⟩
 refine nl ?_
 refine te (fun w hw=>pt_at memA hw) ?_
 refine t1 9 ?_
 refine ca (hB2 gv) ?_
 rintro u3 _ ⟨hu3,rfl⟩
 refine nl ?_
 refine te (fun w hw=>pt_at memA hw) ?_
 refine t1 10 ?_
 refine bdm ?_
 refine nl ?_
 refine te (fun w hw=>pt_at memA hw) ?_
 refine t1 11 ?_
 refine srz ?_
 refine nl ?_
 refine te (fun w hw=>pt_at memA hw) ?_
 refine t0 ?_
 repeat' first|refine xc ?_|refine rt ?_
 exact rca1 (cs:=[.bool (decide (q.num < 0)),u2,u3]) (vs:=[.bool (decide (q.num < 0)),u2,u3]) (T:=TRt) ⟨u2,u3,rfl,hu2,hu3,rfl⟩
end Go.Art
namespace Go.Art
open Go Go.Proofs Go.RowKit
abbrev FQ2 (q:Rat) (e:Int) (u:Value) (D:List Ch):Prop:=∃ vn vd,u = tup2 (rv q vn vd) (I e)∧vn.oneCell' = true∧vd.oneCell' = true∧D = [own T64 vn (Us (dg q.num.natAbs)),own T64 vd (Us (dg q.den))]
theorem Tm_top {l:List Nat} (h:Tm l):¬ (0 < l.length∧l.getD (l.length - 1) 0 = 0):=fun ⟨h1,h2⟩=>h.top h1 h2
theorem icheck_ok (z:Int):¬ ((decide (z < 0) = true∧(dz z).length = 0)∨(0 < (dz z).length∧(dz z).getD ((dz z).length - 1) 0 = 0)):=by
 rintro (⟨h1,h2⟩ | h)
 ·have h3:=dg_nil.1 (List.eq_nil_of_length_eq_zero h2)
  simp at h1;omega
 ·exact Tm_top (Tm_dg _) h
attribute [local irreducible] Fit pt own ro vw mpc lpt vels rels mow lrc dfr
theorem FMake_tr (z:Int) (o dv:Value) (m:List Nat) (hm:Dg m) (hll:(dz z).length ≤ 68719476736) (hlm:m.length ≤ 68719476736) (hm0:nv m ≠ 0) :
  Tr Tryz.prog 75 [iv z o,dv] [vw o (Us (dz z)),vw dv (Us m)] [] (FQ2 (mkRat z (nv m)) 0):=by
 have hC:=ICheck_tr (decide (z < 0)) o (dz z)
 rw [if_neg (icheck_ok z)] at hC
 have hN:=NLen_tr dv m hm (by omega)
 have hL:=lowest_tr (decide (z < 0)) o dv (dz z) m (Dg_dg _) hm hll hlm hm0
 have hs:sg (decide (z < 0)) (nv (dz z)) = z:=by
  unfold sg;rw [nv_dg]
  by_cases h:z < 0
  ·rw [if_pos (by simpa using h)];omega
  ·rw [if_neg (by simpa using h)];omega
 rw [hs] at hL
 unfold FQ at hL
 obtain ⟨q,hq⟩ : ∃ q,q = mkRat z (nv m):=⟨_,rfl⟩
 rw [← hq] at hL ⊢
 refine Tr.enter env _ Tryz.func75 (by kernel_rfl) rfl Tryz.ntmps75 rfl (by repeat (first | exact has00 | refine has01 ?_)) fun w0=>?_
 repeat' first|(refine gca ?_;first|(refine ca hC ?_;rintro _ _ ⟨rfl,rfl⟩)|(refine ca hN ?_;rintro _ _ ⟨⟨nb,rfl,hnb⟩,rfl⟩)|(refine ca hL ?_;rintro _ _ ⟨vn,vd,rfl,hvn,hvd,rfl⟩))|refine bx fun q1=>?_|refine al fun c=>?_|refine lda ?_|refine srz ?_|(refine wo ?_;first|(refine ao ?_;first|refine aw ?_|refine aw6 ?_|refine oa ?_|refine adiv ?_|refine amod ?_|refine shr1 ?_|refine shr ?_|refine umod ?_|refine isl ?_|refine ipe ?_|refine ipn ?_|refine ibe ?_)|refine acw ?_|refine ucv ?_|refine anw ?_|refine oa ?_|refine ld ?_|refine ldl ?_|refine lnm ?_|refine ixmn ?_|refine ixm ?_|refine li ?_|refine lb ?_|refine lv ?_|refine ln ?_|refine ixn ?_|refine ix ?_|refine le ?_|refine sr ?_|refine soi ?_|refine sob ?_|refine scm ?_|refine sclm ?_|refine schm ?_|refine gy ?_|refine gn ?_|refine gnn ?_|refine gu ?_|(refine gsi (fun hB=>?_) (fun hB=>?_) <;> try (exfalso;omega))|(refine gsn (fun hB=>?_) (fun hB=>?_) <;> try (exfalso;omega))|(refine gs (fun hB=>?_) (fun hB=>?_) <;> try (exfalso;omega)))|(refine gc ?_;first|refine ct ?_|refine cf ?_|(refine ci (fun hB=>?_) (fun hB=>?_) <;> try (exfalso;omega))|(refine cn (fun hB=>?_) (fun hB=>?_) <;> try (exfalso;omega))|(refine cb (fun hB=>?_) (fun hB=>?_) <;> try (exfalso;omega)))|refine sq ?_|refine rg ?_|refine xc ?_|refine nl ?_|refine sk ?_|refine bk ?_|refine xe ?_|refine rt ?_|refine xb ?_
 exact rca (cs:=[.bool (decide (q.num < 0)),vn,vd]) (vs:=[.bool (decide (q.num < 0)),vn,vd]) (T:=TRt) ⟨vn,vd,rfl,hvn,hvd,rfl⟩
theorem FPair_tr (x y:Nat) (hx:x < 9223372036854775808) (hy:y < 9223372036854775808) (hy0:y ≠ 0):Tr Tryz.prog 35 [I x,I y] [] [] (FQ2 (mkRat x y) 0):=by
 have hx1:=dg_len1 (n:=x) (by omega)
 have hy1:=dg_len1 (n:=y) (by omega)
 have hO:=IOf_tr x hx
 have hP:=IOf_tr y hy
 have hM:=fun o=>IMake_tr false o (dg x) (Dg_dg x) (by omega)
 have hs:sg false x = (x:Int):=rfl
 have hR:=fun o dv=>FMake_tr (x:Int) o dv (dg y) (Dg_dg y) (by unfold dz;rw [Int.natAbs_natCast];omega) (by omega) (by rw [nv_dg];exact hy0)
 simp only [nv_dg,hs] at hM hR
 unfold IR at hO hP hM
 unfold dz at hR
 simp only [Int.natAbs_natCast] at hO hP hM hR
 have hxn:decide ((x:Int) < 0) = false:=by simp
 have hyn:decide ((y:Int) < 0) = false:=by simp
 rw [hxn] at hO
 rw [hyn] at hP
 unfold FQ2 at hR
 obtain ⟨q,hq⟩ : ∃ q,q = mkRat (x:Int) y:=⟨_,rfl⟩
 simp only [← hq] at hR ⊢
 clear hq
 refine Tr.enter env _ Tryz.func35 (by kernel_rfl) rfl Tryz.ntmps35 rfl (by repeat (first | exact has00 | refine has01 ?_)) fun w0=>?_
 repeat' first|(refine gca ?_;first|(refine ca hO ?_;rintro _ _ ⟨o,rfl,ho,rfl⟩)|(refine ca hP ?_;rintro _ _ ⟨o2,rfl,ho2,rfl⟩))|refine al fun c=>?_|refine srz ?_|(refine wo ?_;first|(refine ao ?_;first|refine aw ?_|refine aw6 ?_|refine oa ?_|refine adiv ?_|refine amod ?_|refine shr1 ?_|refine shr ?_|refine umod ?_|refine isl ?_|refine ipe ?_|refine ipn ?_|refine ibe ?_)|refine acw ?_|refine ucv ?_|refine anw ?_|refine oa ?_|refine ld ?_|refine ldl ?_|refine lnm ?_|refine ixmn ?_|refine ixm ?_|refine li ?_|refine lb ?_|refine lv ?_|refine ln ?_|refine ixn ?_|refine ix ?_|refine le ?_|refine sr ?_|refine soi ?_|refine sob ?_|refine scm ?_|refine sclm ?_|refine schm ?_|refine gy ?_|refine gn ?_|refine gnn ?_|refine gu ?_|(refine gsi (fun hB=>?_) (fun hB=>?_) <;> try (exfalso;omega))|(refine gsn (fun hB=>?_) (fun hB=>?_) <;> try (exfalso;omega))|(refine gs (fun hB=>?_) (fun hB=>?_) <;> try (exfalso;omega)))|(refine gc ?_;first|refine ct ?_|refine cf ?_|(refine ci (fun hB=>?_) (fun hB=>?_) <;> try (exfalso;omega))|(refine cn (fun hB=>?_) (fun hB=>?_) <;> try (exfalso;omega))|(refine cb (fun hB=>?_) (fun hB=>?_) <;> try (exfalso;omega)))|refine sq ?_|refine rg ?_|refine xc ?_|refine nl ?_|refine sk ?_|refine bk ?_|refine xe ?_|refine rt ?_|refine xb ?_
 rename_i d0 d1
 rename Nat=>d2
 refine rs (fun w=>w.heap[d1]? = some (.cells [.bool false,o2].toArray TIt (0,0))∧w.heap[d2]? = some (.cells [.bool false,o].toArray TIt (0,0))) ?_ (fun w hw=>⟨pt_at memA hw,pt_at memA hw⟩)
 refine tka 0 ?_
 refine tkl 1 (cs:=[.bool false,o]) (fun w h=>h.2) ?_
 refine tka 2 ?_
 refine tkl 3 (cs:=[.bool false,o2]) (fun w h=>h.1) ?_
 refine tk 4 (v:=.bool false) (fun _ _=>R_bne (E:=env) (b1:=false) (b2:=false) rfl rfl rfl) ?_
 refine tka 5 ?_
 refine tkl 6 (cs:=[.bool false,o]) (fun w h=>h.2) ?_
 refine tka 8 ?_
 refine tkl 9 (cs:=[.bool false,o2]) (fun w h=>h.1) ?_
 refine t1 7 ?_
 refine ca (hM o) ?_
 rintro _ _ ⟨o3,rfl,ho3,rfl⟩
 refine nl ?_
 refine te (fun w hw=>⟨pt_at memA hw,pt_at memA hw⟩) ?_
 refine t1 10 ?_
 refine ca (hR o3 o2) ?_
 rintro _ _ ⟨vn,vd,rfl,hvn,hvd,rfl⟩
 refine nl ?_
 refine te (fun w hw=>⟨pt_at memA hw,pt_at memA hw⟩) ?_
 refine tka 11 ?_
 refine tka 12 ?_
 refine t1 13 ?_
 refine srz ?_
 refine nl ?_
 refine te (fun w hw=>⟨pt_at memA hw,pt_at memA hw⟩) ?_
 refine tka 14 ?_
 refine t0 ?_
 repeat' first|(refine wo ?_;first|(refine ao ?_;first|refine aw ?_|refine aw6 ?_|refine oa ?_|refine adiv ?_|refine amod ?_|refine shr1 ?_|refine shr ?_|refine umod ?_|refine isl ?_|refine ipe ?_|refine ipn ?_|refine ibe ?_)|refine acw ?_|refine ucv ?_|refine anw ?_|refine oa ?_|refine ld ?_|refine ldl ?_|refine lnm ?_|refine ixmn ?_|refine ixm ?_|refine li ?_|refine lb ?_|refine lv ?_|refine ln ?_|refine ixn ?_|refine ix ?_|refine le ?_|refine sr ?_|refine soi ?_|refine sob ?_|refine scm ?_|refine sclm ?_|refine schm ?_|refine gy ?_|refine gn ?_|refine gnn ?_|refine gu ?_|(refine gsi (fun hB=>?_) (fun hB=>?_) <;> try (exfalso;omega))|(refine gsn (fun hB=>?_) (fun hB=>?_) <;> try (exfalso;omega))|(refine gs (fun hB=>?_) (fun hB=>?_) <;> try (exfalso;omega)))|(refine gc ?_;first|refine ct ?_|refine cf ?_|(refine ci (fun hB=>?_) (fun hB=>?_) <;> try (exfalso;omega))|(refine cn (fun hB=>?_) (fun hB=>?_) <;> try (exfalso;omega))|(refine cb (fun hB=>?_) (fun hB=>?_) <;> try (exfalso;omega)))|refine sq ?_|refine rg ?_|refine xc ?_|refine nl ?_|refine sk ?_|refine bk ?_|refine xe ?_|refine rt ?_|refine xb ?_
 exact rca (cs:=[.bool (decide (q.num < 0)),vn,vd]) (vs:=[.bool (decide (q.num < 0)),vn,vd]) (T:=TRt) ⟨vn,vd,rfl,hvn,hvd,rfl⟩
end Go.Art
namespace Go.Art
open Go Go.Proofs Go.RowKit
def fall (n:Nat):Nat→Nat
 | 0=>1
 | k + 1=>fall n k * (n - k)
def chs:Nat→Nat→Nat
 | _,0=>1
 | 0,_ + 1=>0
 | n + 1,k + 1=>chs n k + chs n (k + 1)
theorem chs_zero (n:Nat):chs n 0 = 1:=by cases n <;> rfl
theorem chs_succ (n k:Nat):chs (n + 1) (k + 1) = chs n k + chs n (k + 1):=rfl
theorem chs_over:∀ {n k:Nat},n < k→chs n k = 0
 | 0,k + 1,_=>rfl
 | n + 1,k + 1,h=>by rw [chs_succ,chs_over (by omega),chs_over (by omega)]
theorem chs_self:∀ n:Nat,chs n n = 1
 | 0=>rfl
 | n + 1=>by rw [chs_succ,chs_self n,chs_over (by omega)]
theorem chs_next:∀ (n k:Nat),chs n (k + 1) * (k + 1) = chs n k * (n - k)
 | 0,0=>rfl
 | 0,k + 1=>by simp [chs]
 | n + 1,0=>by
  rw [chs_succ,chs_zero,chs_zero]
  have:=chs_next n 0
  rw [chs_zero] at this
  omega
 | n + 1,k + 1=>by
  have h1:=chs_next n k
  have h2:=chs_next n (k + 1)
  rw [chs_succ n (k + 1),chs_succ n k]
  rcases Nat.lt_or_ge k n with h | h
  ·obtain ⟨m,rfl⟩ : ∃ m,n = k + 1 + m:=⟨n - (k + 1),by omega⟩
   have e1:k + 1 + m - k = m + 1:=by omega
   have e2:k + 1 + m - (k + 1) = m:=by omega
   have e3:k + 1 + m + 1 - (k + 1) = m + 1:=by omega
   rw [e1] at h1
   rw [e2] at h2
   rw [e3]
   generalize chs (k + 1 + m) k = a at *
   generalize chs (k + 1 + m) (k + 1) = b at *
   generalize chs (k + 1 + m) (k + 1 + 1) = c at *
   rw [Nat.add_mul,h2,Nat.add_mul,← h1]
   simp only [Nat.mul_add,Nat.mul_one]
   omega
  ·rw [chs_over (k:=k + 1) (by omega),chs_over (k:=k + 1 + 1) (by omega),show n + 1 - (k + 1) = 0 by omega]
   simp
theorem chs_symm:∀ {n k:Nat},k ≤ n→chs n (n - k) = chs n k
 | 0,k,h=>by
  obtain rfl:k = 0:=(by omega)
  rfl
 | n + 1,0,_=>by rw [Nat.sub_zero,chs_self,chs_zero]
 | n + 1,k + 1,h=>by
  rcases Nat.lt_or_ge k n with h1 | h1
  ·rw [show n + 1 - (k + 1) = (n - (k + 1)) + 1 by omega,chs_succ,chs_succ,chs_symm (n:=n) (k:=k + 1) (by omega),show n - (k + 1) + 1 = n - k by omega,chs_symm (n:=n) (k:=k) (by omega)]
   omega
  ·obtain rfl:k = n:=by omega
   rw [show k + 1 - (k + 1) = 0 by omega,chs_zero,chs_self]
theorem chs_pos {n k:Nat} (h:k ≤ n):chs n k ≠ 0:=by
 induction n generalizing k with
 | zero=>
  obtain rfl:k = 0:=(by omega)
  exact Nat.one_ne_zero
 | succ n ih=>
  cases k with
  | zero=>rw [chs_zero];exact Nat.one_ne_zero
  | succ k=>rw [chs_succ];have:=ih (k:=k) (by omega);omega
theorem chs_le (n k:Nat):chs n k ≤ 2 ^ n:=by
 induction n generalizing k with
 | zero=>cases k <;> simp [chs]
 | succ n ih=>
  cases k with
  | zero=>rw [chs_zero];exact Nat.one_le_two_pow
  | succ k=>rw [chs_succ,Nat.pow_succ];have:=ih k;have:=ih (k + 1);omega
theorem chs_len (n k:Nat):(dg (chs n k)).length ≤ n + 1:=(dg_len _ _).2 (by
 refine Nat.lt_of_le_of_lt (chs_le n k) (Nat.lt_of_lt_of_le (Nat.pow_lt_pow_right (a:=2) (by decide) (Nat.lt_succ_self n)) (Nat.pow_le_pow_left (by decide) _))
)
theorem chs_step {n i:Nat}:chs n i * (n - i) / (i + 1) = chs n (i + 1):=by
 rw [← chs_next,Nat.mul_div_cancel _ (by omega)]
attribute [local irreducible] Fit pt own ro vw mpc lpt vels rels mow lrc dfr
abbrev eNat (u:Value) (D:List Ch) (m:Nat) (e:Int):Prop:=∃ o,u = tup2 o (I e)∧o.oneCell' = true∧D = [own T64 o (Us (dg m))]
theorem Choose_tr (n k:Nat) (hn:n ≤ 65536) (hk:k ≤ n):Tr Tryz.prog 137 [I n,I k] [] [] fun u D=>eNat u D (chs n k) 0:=by
 obtain ⟨m,hm⟩ : ∃ m,m = min k (n - k):=⟨_,rfl⟩
 have hcm:chs n m = chs n k:=by
  rw [hm]
  rcases Nat.le_total k (n - k) with h | h
  ·rw [Nat.min_eq_left h]
  ·rw [Nat.min_eq_right h,chs_symm hk]
 have hmn:m ≤ n:=by omega
 have hmi:min (k:Int) ((n:Int) - k) = (m:Int):=by omega
 rw [← hcm]
 clear hcm
 refine Tr.enter env _ Tryz.func137 (by kernel_rfl) rfl Tryz.ntmps137 rfl (by repeat (first | exact has00 | refine has01 ?_)) fun w0=>?_
 repeat' first|(refine gca ?_;first|(refine ca (Of_tr 1 (by decide)) ?_;rintro o _ ⟨ho,rfl⟩))|(refine mnn ?_;rw [hmi])|(refine wo ?_;first|(refine ao ?_;first|refine aw ?_|refine oa ?_)|refine oa ?_|refine gy ?_)|(refine gc ?_;first|(refine ci (fun hB=>?_) (fun hB=>?_) <;> try (exfalso;omega)))|refine sq ?_|refine rg ?_|refine xc ?_|refine nl ?_|refine sk ?_|refine bk ?_
 clear hmi hm
 refine TC.loop (ι:=Nat × Value) (fun g=>[(7,I ((g.1:Int) + 1)),(6,g.2),(8,I ((n:Int) - g.1)),(9,I ((m:Int) - g.1))]) (fun g=>[own T64 g.2 (Us (dg (chs n g.1)))]) (fun g=>g.1 ≤ m∧g.2.oneCell' = true) (fun g=>m - g.1) (0,o) [] ⟨Nat.zero_le _,ho⟩ ?_ (hf:=by dsimp only;rw [chs_zero];exact fitA) (hs:=by dsimp only;simp only [Int.natCast_zero,Int.sub_zero,Int.zero_add];(repeat (refine Sub.cons rfl (by first | rfl | go_num) ?_));exact Sub.nil)
 rintro ⟨i,v⟩ ⟨hi,hv⟩
 dsimp only at hi hv ⊢
 by_cases hlt:i < m
 ·have hG:=NGrow_tr v (dg (chs n i)) (n - i) (Dg_dg _) (by omega) (by have:=chs_len n i;omega)
  have hl1:(dg (chs n i * (n - i))).length ≤ n + 2:=by
   have h1:=(dg_len _ _).1 (chs_len n i)
   exact (dg_len _ _).2 (by rw [Nat.pow_succ];exact Nat.mul_lt_mul_of_lt_of_le h1 (by omega) (by decide))
  have hP:=fun v=>Part_tr v (dg (chs n i * (n - i))) (i + 1) (Dg_dg _) (by omega) (by omega) (by omega)
  simp only [nv_dg,chs_step] at hG hP
  repeat' first|(refine gca ?_;first|(refine ca hG ?_;rintro v2 _ ⟨hv2,rfl⟩)|(refine ca (hP v2) ?_;rintro _ _ ⟨v3,rfl,hv3,rfl⟩))|(refine ntu (m:=(n:Int) - i) ?_;rw [show ((n:Int) - i).toNat = n - i by omega])|(refine ntu (m:=(i:Int) + 1) ?_;rw [show ((i:Int) + 1).toNat = i + 1 by omega])|(refine wo ?_;first|(refine ao ?_;first|refine aw ?_|refine oa ?_)|refine oa ?_)|(refine gc ?_;first|(refine ci (fun hB=>?_) (fun hB=>?_) <;> try (exfalso;omega)))|refine sq ?_|refine rg ?_|refine xc ?_|refine nl ?_|refine sk ?_|refine bk ?_|refine xb ?_
  exact lp (i + 1,v3) ⟨hlt,hv3⟩ (hs:=by dsimp only;(repeat (refine Sub.cons rfl (by first | rfl | go_num) ?_));exact Sub.nil)
 ·obtain rfl:i = m:=by omega
  repeat' first|(refine wo ?_;first|(refine ao ?_;first|refine oa ?_)|refine oa ?_)|(refine gc ?_;first|(refine ci (fun hB=>?_) (fun hB=>?_) <;> try (exfalso;omega)))|refine sq ?_|refine rg ?_|refine xc ?_|refine nl ?_|refine xe ?_|refine rt ?_
  exact r2 ⟨v,rfl,hv,rfl⟩
end Go.Art
namespace Go.Art
open Go Go.Proofs Go.RowKit
def rowsW (tot:Int) (cut oth:List Int) (k:Int):List (List Int) × Int:=
 if rwE tot cut oth k = 0 then (if 4096 < (allL tot cut oth k.toNat).length then ([],4) else (allL tot cut oth k.toNat,0)) else ([],rwE tot cut oth k)
abbrev TLL:TypeId:=56
abbrev TEr:TypeId:=27
structure RwsG where
 v:Value
 hs:List Value
 i:Nat
 st:Bool
attribute [local irreducible] Fit pt own ro vw mpc lpt vels rels mow lrc dfr
attribute [local irreducible] lmp lme mit velg relg bnd owl dfrl allL rwE
end Go.Art
namespace Go.Art
open Go Go.Proofs Go.RowKit
def risL:Nat→Nat→Nat→List Int→List (List Int)
 | 0,_,_,b=>[b]
 | d + 1,f,k,b=>(List.range (k - d - f)).flatMap fun j:Nat=>risL d (f + j + 1) k (b ++ [((f + j:Nat):Int)])
def risR:Nat→Nat→Nat→List (List Int)
 | 0,_,_=>[[]]
 | d + 1,f,k=>(List.range (k - f)).flatMap fun j:Nat=>(risR d (f + j + 1) k).map fun l=>((f + j:Nat):Int) :: l
theorem fm_nil {α:Type} (g:Nat→List α) (n:Nat) (h:∀ j,j < n→g j = []):(List.range n).flatMap g = []:=by
 induction n with
 | zero=>rfl
 | succ n ih=>rw [fm_succ,ih (fun j hj=>h j (by omega)),h n (by omega)];rfl
theorem fm_cut {α:Type} (g:Nat→List α) {n m:Nat} (hm:m ≤ n) (h:∀ j,m ≤ j→j < n→g j = []):(List.range n).flatMap g = (List.range m).flatMap g:=by
 obtain ⟨q,rfl⟩:=Nat.exists_eq_add_of_le hm
 induction q with
 | zero=>rfl
 | succ q ih=>rw [← Nat.add_assoc,fm_succ,ih (by omega) (fun j h1 h2=>h j h1 (by omega)),h (m + q) (by omega) (by omega),List.append_nil]
theorem risR_nil:∀ (d f k:Nat),1 ≤ d→k < f + d→risR d f k = []
 | 0,_,_,h,_=>absurd h (by decide)
 | d + 1,f,k,_,h=>by
  refine fm_nil _ _ fun j hj=>?_
  cases d with
  | zero=>omega
  | succ d=>rw [risR_nil (d + 1) (f + j + 1) k (by omega) (by omega)];rfl
theorem risL_pre:∀ (d f k:Nat) (b:List Int),risL d f k b = (risR d f k).map (b ++ ·)
 | 0,f,k,b=>by simp [risL,risR]
 | d + 1,f,k,b=>by
  have h1:(List.range (k - f)).flatMap (fun j:Nat=>(risR d (f + j + 1) k).map fun l=>((f + j:Nat):Int) :: l) = (List.range (k - d - f)).flatMap (fun j:Nat=>(risR d (f + j + 1) k).map fun l=>((f + j:Nat):Int) :: l):=by
   refine fm_cut _ (by omega) fun j h1 h2=>?_
   cases d with
   | zero=>omega
   | succ d=>rw [risR_nil (d + 1) (f + j + 1) k (by omega) (by omega)];rfl
  show (List.range (k - d - f)).flatMap (fun j:Nat=>risL d (f + j + 1) k (b ++ [((f + j:Nat):Int)])) = ((List.range (k - f)).flatMap (fun j:Nat=>(risR d (f + j + 1) k).map fun l=>((f + j:Nat):Int) :: l)).map (b ++ ·)
  rw [h1,List.map_flatMap]
  refine congrArg (fun g=>(List.range (k - d - f)).flatMap g) (funext fun j=>?_)
  rw [risL_pre d (f + j + 1) k,List.map_map]
  refine List.map_congr_left fun l _=>?_
  simp
theorem risL_nil (d f k:Nat):risL d f k [] = risR d f k:=by rw [risL_pre];simp
theorem risR_len:∀ (d f k:Nat),(risR d f k).length = chs (k - f) d
 | 0,f,k=>by cases hk:k - f <;> rfl
 | d + 1,f,k=>by
  have key:∀ n f,k - f = n→(risR (d + 1) f k).length = chs n (d + 1):=by
   intro n
   induction n with
   | zero=>
    intro f hf
    show ((List.range (k - f)).flatMap _).length = _
    rw [hf];rfl
   | succ n ih=>
    intro f hf
    have h1:=ih (f + 1) (by omega)
    have h2:risR (d + 1) f k = (risR d (f + 1) k).map (fun l=>((f:Nat):Int) :: l) ++ risR (d + 1) (f + 1) k:=by
     show (List.range (k - f)).flatMap (fun j:Nat=>(risR d (f + j + 1) k).map fun l=>((f + j:Nat):Int) :: l) = _
     rw [hf,List.range_succ_eq_map,List.flatMap_cons,List.flatMap_map]
     congr 1
     show _ = (List.range (k - (f + 1))).flatMap (fun j:Nat=>(risR d (f + 1 + j + 1) k).map fun l=>((f + 1 + j:Nat):Int) :: l)
     rw [show k - (f + 1) = n by omega]
     refine congrArg (fun g=>(List.range n).flatMap g) (funext fun j=>?_)
     rw [show f + (j + 1) = f + 1 + j by omega]
    rw [h2,List.length_append,List.length_map,h1,risR_len d (f + 1) k,show k - (f + 1) = n by omega]
    rfl
  exact key _ f rfl
theorem risR_mem:∀ (d f k:Nat) (l:List Int),l ∈ risR d f k→l.length = d∧∀ x ∈ l,(f:Int) ≤ x∧x < k
 | 0,f,k,l,h=>by rw [List.mem_singleton.1 h];exact ⟨rfl,fun x hx=>nomatch hx⟩
 | d + 1,f,k,l,h=>by
  obtain ⟨j,hj,h1⟩:=List.mem_flatMap.1 h
  obtain ⟨m,hm,rfl⟩:=List.mem_map.1 h1
  obtain ⟨g1,g2⟩:=risR_mem d (f + j + 1) k m hm
  have hj:=List.mem_range.1 hj
  refine ⟨by simp [g1],fun x hx=>?_⟩
  rcases List.mem_cons.1 hx with rfl | hx
  ·omega
  ·have:=g2 x hx;omega
def setP (t:List Int) (k n:Nat):List (List Int):=(List.range n).flatMap fun i:Nat=>if t.getD i 0 = 0 then [] else risR (i + 1) 0 k
def setsW (t:List Int) (k:Int):List (List Int) × Int:=
 if solE t k = 0 then (if 4096 < (setP t k.toNat t.length).length then ([],4) else (setP t k.toNat t.length,0)) else ([],13)
theorem setP_mem {t:List Int} {k n:Nat} {l:List Int} (h:l ∈ setP t k n):1 ≤ l.length∧l.length ≤ n∧t.getD (l.length - 1) 0 ≠ 0∧l ∈ risR l.length 0 k:=by
 obtain ⟨i,hi,h1⟩:=List.mem_flatMap.1 h
 have hi:=List.mem_range.1 hi
 by_cases e:t.getD i 0 = 0
 ·rw [if_pos e] at h1;cases h1
 ·rw [if_neg e] at h1
  have h2:=(risR_mem _ _ _ _ h1).1
  rw [h2]
  exact ⟨by omega,by omega,e,h1⟩
open Go Go.Proofs Go.RowKit
/-! Sums of fractions. -/
def sR {α:Type} (f:α→Rat):List α→Rat
 | []=>0
 | a :: l=>f a + sR f l
section
variable {α β:Type}
theorem sR_app (f:α→Rat):∀ l m:List α,sR f (l ++ m) = sR f l + sR f m
 | [],m=>by simp [sR,Rat.zero_add]
 | a :: l,m=>by simp only [List.cons_append,sR,sR_app f l m,Rat.add_assoc]
theorem sR_congr {f g:α→Rat}:∀ {l:List α},(∀ x ∈ l,f x = g x)→sR f l = sR g l
 | [],_=>rfl
 | a :: l,h=>by simp only [sR];rw [h a (by simp),sR_congr fun x hx=>h x (by simp [hx])]
theorem sR_add (f g:α→Rat):∀ l:List α,sR (fun x=>f x + g x) l = sR f l + sR g l
 | []=>by simp only [sR];grind
 | a :: l=>by simp only [sR,sR_add f g l];grind
theorem sR_mul (c:Rat) (f:α→Rat):∀ l:List α,sR (fun x=>c * f x) l = c * sR f l
 | []=>by simp only [sR];grind
 | a :: l=>by simp only [sR,sR_mul c f l];grind
theorem sR_zero:∀ l:List α,sR (fun _=>0) l = 0
 | []=>rfl
 | a :: l=>by simp only [sR,sR_zero l];grind
theorem sR_const (c:Rat):∀ l:List α,sR (fun _=>c) l = (l.length:Rat) * c
 | []=>by simp [sR,Rat.zero_mul]
 | a :: l=>by simp only [sR,sR_const c l,List.length_cons];push_cast;grind
theorem sR_comm (f:α→β→Rat) (m:List β):∀ l:List α,sR (fun x=>sR (f x) m) l = sR (fun y=>sR (fun x=>f x y) l) m
 | []=>by simp only [sR,sR_zero]
 | a :: l=>by simp only [sR];rw [sR_comm f m l,sR_add]
theorem sR_filter (f:α→Rat) (p:α→Bool):∀ l:List α,sR f l = sR f (l.filter p) + sR f (l.filter fun x=>!p x)
 | []=>by simp only [sR,List.filter_nil];grind
 | a :: l=>by
  have:=sR_filter f p l
  simp only [sR,List.filter_cons]
  cases p a <;> simp [sR] <;> grind
theorem sR_map (f:β→Rat) (g:α→β):∀ l:List α,sR f (l.map g) = sR (fun x=>f (g x)) l
 | []=>rfl
 | a :: l=>by simp only [List.map_cons,sR,sR_map f g l]
/-! Binomial sums. -/
def bsum:Nat→(Nat→Rat)→Rat
 | 0,f=>f 0
 | c + 1,f=>bsum c f + bsum c fun a=>f (a + 1)
theorem bsum_congr:∀ {c:Nat} {f g:Nat→Rat},(∀ a,a ≤ c→f a = g a)→bsum c f = bsum c g
 | 0,_,_,h=>h 0 (Nat.le_refl _)
 | c + 1,f,g,h=>by simp only [bsum];rw [bsum_congr fun a ha=>h a (by omega),bsum_congr (f:=fun a=>f (a + 1)) fun a ha=>h (a + 1) (by omega)]
theorem bsum_mul (k:Rat):∀ (c:Nat) (f:Nat→Rat),bsum c (fun a=>k * f a) = k * bsum c f
 | 0,f=>rfl
 | c + 1,f=>by simp only [bsum];rw [bsum_mul k c f,bsum_mul k c fun a=>f (a + 1)];grind
theorem bsum_add:∀ (c:Nat) (f g:Nat→Rat),bsum c (fun a=>f a + g a) = bsum c f + bsum c g
 | 0,f,g=>rfl
 | c + 1,f,g=>by simp only [bsum];rw [bsum_add c f g,bsum_add c (fun a=>f (a + 1)) fun a=>g (a + 1)];grind
theorem bsum_zero:∀ c,bsum c (fun _=>0) = 0
 | 0=>rfl
 | c + 1=>by simp only [bsum];rw [bsum_zero c];grind
theorem bsum_sR (f:α→Nat→Rat) (c:Nat):∀ l:List α,sR (fun x=>bsum c (f x)) l = bsum c fun a=>sR (fun x=>f x a) l
 | []=>by simp only [sR,bsum_zero]
 | a :: l=>by simp only [sR];rw [bsum_sR f c l,bsum_add]
theorem bsum_comm:∀ (c d:Nat) (f:Nat→Nat→Rat),bsum c (fun a=>bsum d (f a)) = bsum d fun b=>bsum c fun a=>f a b
 | 0,d,f=>rfl
 | c + 1,d,f=>by simp only [bsum];rw [bsum_comm c d f,bsum_comm c d fun a=>f (a + 1),bsum_add]
theorem bsum_pow (x y:Rat):∀ c,bsum c (fun a=>x ^ a * y ^ (c - a)) = (x + y) ^ c
 | 0=>by simp [bsum,Rat.pow_zero,Rat.mul_one]
 | c + 1=>by
  simp only [bsum]
  rw [bsum_congr (g:=fun a=>y * (x ^ a * y ^ (c - a))) fun a ha=>by rw [show c + 1 - a = c - a + 1 by omega,Rat.pow_succ];grind]
  rw [bsum_congr (f:=fun a=>x ^ (a + 1) * y ^ (c + 1 - (a + 1))) (g:=fun a=>x * (x ^ a * y ^ (c - a))) fun a ha=>by rw [Nat.add_sub_add_right,Rat.pow_succ];grind]
  rw [bsum_mul,bsum_mul,bsum_pow x y c,Rat.pow_succ];grind
/-! The mass of tuples. -/
def tG (L:List (β × Rat)):Nat→(List β→Rat)→Rat
 | 0,F=>F []
 | n + 1,F=>sR (fun s=>s.2 * tG L n fun l=>F (s.1 :: l)) L
theorem tG_congr {L:List (β × Rat)}:∀ {n:Nat} {F G:List β→Rat},(∀ l,l.length = n→(∀ x ∈ l,∃ w,(x,w) ∈ L)→F l = G l)→tG L n F = tG L n G
 | 0,F,G,h=>h [] rfl (by simp)
 | n + 1,F,G,h=>sR_congr fun s hs=>by
  rw [tG_congr (F:=fun l=>F (s.1 :: l)) (G:=fun l=>G (s.1 :: l)) fun l hl hx=>h _ (by simp [hl]) fun x hm=>by
   rcases List.mem_cons.1 hm with rfl | hm
   ·exact ⟨s.2,hs⟩
   ·exact hx x hm]
theorem tG_mul (L:List (β × Rat)) (c:Rat):∀ (n:Nat) (F:List β→Rat),tG L n (fun l=>c * F l) = c * tG L n F
 | 0,F=>rfl
 | n + 1,F=>by
  simp only [tG]
  rw [← sR_mul]
  exact sR_congr fun s _=>by rw [tG_mul L c n fun l=>F (s.1 :: l)];grind
theorem tG_add (L:List (β × Rat)):∀ (n:Nat) (F G:List β→Rat),tG L n (fun l=>F l + G l) = tG L n F + tG L n G
 | 0,F,G=>rfl
 | n + 1,F,G=>by
  simp only [tG]
  rw [← sR_add]
  exact sR_congr fun s _=>by rw [tG_add L n (fun l=>F (s.1 :: l)) fun l=>G (s.1 :: l)];grind
theorem tG_zero (L:List (β × Rat)):∀ n,tG L n (fun _=>0) = 0
 | 0=>rfl
 | n + 1=>by
  simp only [tG,tG_zero L n]
  rw [sR_congr (g:=fun _=>0) fun s _=>by grind,sR_zero]
theorem tG_sR (L:List (β × Rat)) (n:Nat) (F:α→List β→Rat):∀ M:List α,tG L n (fun l=>sR (fun s=>F s l) M) = sR (fun s=>tG L n (F s)) M
 | []=>by simp only [sR];exact tG_zero L n
 | a :: M=>by simp only [sR];rw [tG_add,tG_sR L n F M]
theorem tG_bsum (L:List (β × Rat)) (n:Nat):∀ (c:Nat) (F:Nat→List β→Rat),tG L n (fun l=>bsum c fun a=>F a l) = bsum c fun a=>tG L n (F a)
 | 0,F=>rfl
 | c + 1,F=>by simp only [bsum];rw [tG_add,tG_bsum L n c F,tG_bsum L n c fun a=>F (a + 1)]
theorem tG_const (L:List (β × Rat)) (c:Rat):∀ n,tG L n (fun _=>c) = (sR (·.2) L) ^ n * c
 | 0=>by simp [tG,Rat.pow_zero,Rat.one_mul]
 | n + 1=>by
  simp only [tG,tG_const L c n]
  rw [sR_congr (g:=fun s=>(sR (·.2) L ^ n * c) * s.2) fun s _=>by grind,sR_mul,Rat.pow_succ]
  grind
theorem tG_null {L:List (β × Rat)} {p:β→Bool}:∀ {n:Nat} {G:List β→Rat} (_:∀ l m,l.Perm m→G l = G m) (_:∀ s ∈ L,p s.1 = true→∀ l,G (s.1 :: l) = G l),
  tG L n G = bsum n fun b=>sR (·.2) (L.filter fun s=>p s.1) ^ b * tG (L.filter fun s=>!p s.1) (n - b) G
 | 0,G,_,_=>by simp [tG,bsum,Rat.pow_zero,Rat.one_mul]
 | n + 1,G,h1,h2=>by
  have ih:=fun (x:β)=>tG_null (L:=L) (p:=p) (n:=n) (G:=fun l=>G (x :: l)) (fun l m h=>h1 _ _ (h.cons x)) (fun s hs hp l=>by rw [h1 _ _ (List.Perm.swap s.1 x l),h2 s hs hp])
  have ih0:=tG_null (L:=L) (p:=p) (n:=n) h1 h2
  simp only [tG,bsum]
  rw [sR_filter _ fun s=>p s.1]
  have e1:sR (fun s=>s.2 * tG L n fun l=>G (s.1 :: l)) (L.filter fun s=>p s.1) = sR (·.2) (L.filter fun s=>p s.1) * tG L n G:=by
   rw [sR_congr (g:=fun s=>tG L n G * s.2) fun s hs=>?_,sR_mul,Rat.mul_comm]
   have hs:=List.mem_filter.1 hs
   rw [tG_congr fun l _ _=>h2 s hs.1 hs.2 l];grind
  have e2:sR (fun s=>s.2 * tG L n fun l=>G (s.1 :: l)) (L.filter fun s=>!p s.1) = bsum n fun b=>sR (·.2) (L.filter fun s=>p s.1) ^ b * tG (L.filter fun s=>!p s.1) (n + 1 - b) G:=by
   rw [sR_congr fun s _=>by rw [ih s.1,← bsum_mul],bsum_sR]
   refine bsum_congr fun b hb=>?_
   rw [show n + 1 - b = n - b + 1 by omega]
   simp only [tG]
   rw [← sR_mul]
   exact sR_congr fun s _=>by grind
  rw [e1,e2,ih0,← bsum_mul,Rat.add_comm]
  congr 1
  refine bsum_congr fun b hb=>?_
  rw [Rat.pow_succ,Nat.add_sub_add_right];grind
theorem tG_conv {L M:List (β × Rat)} {p:β→Bool} {φ:β→β} {P:Rat} (hM:∀ g:β→Rat,sR (fun s=>s.2 * g (φ s.1)) (L.filter fun s=>p s.1) = P * sR (fun t=>t.2 * g t.1) M) :
  ∀ {c m:Nat} {G:List β→Rat} (_:∀ l m,l.Perm m→G l = G m) (_:∀ s ∈ L,p s.1 = true→∀ l,G (s.1 :: l) = G (φ s.1 :: l)),
  tG L c (fun x=>tG M m fun y=>G (y ++ x)) = bsum c fun a=>P ^ a * tG (L.filter fun s=>!p s.1) (c - a) fun x=>tG M (m + a) fun y=>G (y ++ x)
 | 0,m,G,_,_=>by simp [tG,bsum,Rat.pow_zero,Rat.one_mul]
 | c + 1,m,G,h1,h2=>by
  have ih:=fun (x:β)=>tG_conv hM (c:=c) (m:=m) (G:=fun l=>G (x :: l)) (fun l m h=>h1 _ _ (h.cons x)) (fun s hs hp l=>by rw [h1 _ _ (List.Perm.swap s.1 x l),h2 s hs hp,h1 _ _ (List.Perm.swap x (φ s.1) l)])
  have ih0:=tG_conv hM (c:=c) (m:=m + 1) h1 h2
  have em:∀ (s:β) (x y:List β),G (y ++ s :: x) = G (s :: (y ++ x)):=fun s x y=>h1 _ _ List.perm_middle
  simp only [bsum]
  have e0:tG L (c + 1) (fun x=>tG M m fun y=>G (y ++ x)) = sR (fun s=>s.2 * tG L c fun x=>tG M m fun y=>G (s.1 :: (y ++ x))) L:=by
   simp only [tG,em]
  have e1:sR (fun s=>s.2 * tG L c fun x=>tG M m fun y=>G (s.1 :: (y ++ x))) (L.filter fun s=>p s.1) = P * tG L c fun x=>tG M (m + 1) fun y=>G (y ++ x):=by
   have k1:sR (fun s=>s.2 * tG L c fun x=>tG M m fun y=>G (s.1 :: (y ++ x))) (L.filter fun s=>p s.1) = sR (fun s=>s.2 * (fun t=>tG L c fun x=>tG M m fun y=>G (t :: (y ++ x))) (φ s.1)) (L.filter fun s=>p s.1):=sR_congr fun s hs=>by
    have hs:=List.mem_filter.1 hs
    simp only [h2 s hs.1 hs.2]
   rw [k1,hM fun t=>tG L c fun x=>tG M m fun y=>G (t :: (y ++ x))]
   congr 1
   have k2:(fun x=>tG M (m + 1) fun y=>G (y ++ x)) = fun x=>sR (fun t=>(fun x=>t.2 * tG M m fun y=>G (t.1 :: (y ++ x))) x) M:=funext fun x=>by simp only [tG,List.cons_append]
   rw [k2,tG_sR]
   exact sR_congr fun t _=>by rw [tG_mul]
  have e2:sR (fun s=>s.2 * tG L c fun x=>tG M m fun y=>G (s.1 :: (y ++ x))) (L.filter fun s=>!p s.1) = bsum c fun a=>P ^ a * tG (L.filter fun s=>!p s.1) (c + 1 - a) fun x=>tG M (m + a) fun y=>G (y ++ x):=by
   rw [sR_congr fun s _=>by rw [ih s.1,← bsum_mul],bsum_sR]
   refine bsum_congr fun a ha=>?_
   rw [show c + 1 - a = c - a + 1 by omega]
   simp only [tG,em]
   rw [← sR_mul]
   exact sR_congr fun s _=>by grind
  rw [e0,sR_filter _ fun s=>p s.1,e1,e2,ih0,← bsum_mul,Rat.add_comm]
  congr 1
  refine bsum_congr fun a ha=>?_
  rw [Rat.pow_succ,Nat.add_sub_add_right,show m + 1 + a = m + (a + 1) by omega];grind
end
end Go.Art
namespace Go.Art
open Go Go.Proofs Go.RowKit
/-! What is stuck in the end, set by set. -/
def cU (U l:List Int):Nat:=(l.filter fun x=>U.contains x).length
structure Core (k:Nat) (X:List (List Int)) (φ:Nat→Rat) (F:List Int→List (List Int)→Rat):Prop where
 perm:∀ U l m,l.Perm m→F U l = F U m
 none:∀ U l ls,cU U l = 0→F U (l :: ls) = F U ls
 one:∀ U l ls s,(l ∈ X∨l = [s])→s ∈ U→U.Nodup→(∀ x,x ∈ l∧x ∈ U ↔ x = s)→F U (l :: ls) = F (U.erase s) ls
 stuck:∀ U ls,U.Nodup→U.length ≤ k→(∀ l ∈ ls,l ∈ X∧2 ≤ cU U l)→F U ls = φ U.length
def clo (X:List (List Int × Rat)) (U:List Int):List (List Int × Rat):=X.filter fun s=>decide (2 ≤ cU U s.1)
def sym (U:List Int):List (List Int × Rat):=U.map fun t=>([t],1)
structure Even (k:Nat) (X:List (List Int × Rat)) (Q P:Nat→Rat):Prop where
 nd:∀ s ∈ X,s.1.Nodup
 cloud:∀ U:List Int,U.Pairwise (· < ·)→(∀ x ∈ U,0 ≤ x∧x < k)→sR (·.2) (clo X U) = Q U.length
 two:∀ U:List Int,U.Pairwise (· < ·)→(∀ x ∈ U,0 ≤ x∧x < k)→∀ s ∈ U,∀ g:List Int→Rat,sR (fun S=>S.2 * g (S.1.filter fun x=>(U.erase s).contains x)) (X.filter fun S=>decide (cU U S.1 = 2) && S.1.contains s) = P U.length * sR (fun t=>g [t]) (U.erase s)
def vB (φ:Nat→Rat) (f:Nat→Rat):Nat→Nat→Nat→Rat
 | 0,_,_=>φ 0
 | u + 1,_,0=>φ (u + 1)
 | u + 1,c,r + 1=>bsum c fun a=>bsum r fun b=>(f (u + 1) ^ a * (1 - f (u + 1)) ^ (c - a)) * ((1 / ((u + 1:Nat):Rat)) ^ b * (1 - 1 / ((u + 1:Nat):Rat)) ^ (r - b)) * vB φ f u (c - a) (r - b + a)
theorem sorted_nd {U:List Int} (h:U.Pairwise (· < ·)):U.Nodup:=h.imp fun h=>Int.ne_of_lt h
theorem cU_erase {U l:List Int} {s:Int} (hU:U.Nodup) (hs:s ∈ U) (hl:l.Nodup):cU U l = cU (U.erase s) l + if s ∈ l then 1 else 0:=by
 unfold cU
 induction l with
 | nil=>rfl
 | cons x l ih=>
  obtain ⟨h1,h2⟩:=List.nodup_cons.1 hl
  have ih:=ih h2
  have hm:(U.erase s).contains x = (U.contains x && decide (x ≠ s)):=by
   rw [Bool.eq_iff_iff]
   simp [hU.mem_erase_iff,and_comm]
  rw [List.filter_cons,List.filter_cons,hm]
  by_cases e:x = s
  ·subst e
   simp [hs,h1] at ih ⊢
   exact ih
  ·have e2:s ∈ x :: l ↔ s ∈ l:=by simp [Ne.symm e]
   simp only [e2]
   rw [show decide (x ≠ s) = true from decide_eq_true e,Bool.and_true]
   by_cases hc:U.contains x = true
   ·rw [if_pos hc,if_pos hc,List.length_cons,List.length_cons,ih];omega
   ·rw [if_neg hc,if_neg hc,ih]
theorem one_powR:∀ n:Nat,(1:Rat) ^ n = 1
 | 0=>Rat.pow_zero _
 | n + 1=>by rw [Rat.pow_succ,one_powR n,Rat.one_mul]
theorem pow_mulR (a b:Rat):∀ n:Nat,(a * b) ^ n = a ^ n * b ^ n
 | 0=>by simp [Rat.pow_zero]
 | n + 1=>by rw [Rat.pow_succ,Rat.pow_succ,Rat.pow_succ,pow_mulR a b n];grind
theorem pow_addR (a:Rat) (m:Nat):∀ n:Nat,a ^ (m + n) = a ^ m * a ^ n
 | 0=>by simp [Rat.pow_zero,Rat.mul_one]
 | n + 1=>by rw [← Nat.add_assoc,Rat.pow_succ,Rat.pow_succ,pow_addR a m n];grind
theorem sym_erase {U:List Int} (hU:U.Nodup) {s:Int}:(sym U).filter (fun t=>!(decide (t.1 = [s]))) = sym (U.erase s):=by
 unfold sym
 rw [List.filter_map,hU.erase_eq_filter]
 congr 1
 refine List.filter_congr fun x _=>?_
 by_cases e:x = s <;> simp [e]
theorem sym_one {U:List Int} (hU:U.Nodup) {s:Int} (hs:s ∈ U):sR (·.2) ((sym U).filter fun t=>decide (t.1 = [s])) = 1:=by
 unfold sym
 rw [List.filter_map]
 have:U.filter ((fun t:List Int × Rat=>decide (t.1 = [s])) ∘ fun t=>([t],1)) = [s]:=by
  rw [show ((fun t:List Int × Rat=>decide (t.1 = [s])) ∘ fun t=>([t],1)) = fun x=>x == s from funext fun x=>by by_cases e:x = s <;> simp [e]]
  rw [List.filter_beq,hU.count,if_pos hs];rfl
 rw [this]
 simp [sR,Rat.add_zero]
theorem core_rec {k:Nat} {X:List (List Int × Rat)} {φ:Nat→Rat} {F:List Int→List (List Int)→Rat} {Q P f:Nat→Rat} (hF:Core k (X.map (·.1)) φ F) (hE:Even k X Q P)
  (hf1:∀ u,u < k→Q (u + 1) * f (u + 1) = (u:Rat) * P (u + 1)) (hf2:∀ u,u < k→Q (u + 1) * (1 - f (u + 1)) = Q u) :
  ∀ u U c r,U.length = u→u ≤ k→U.Pairwise (· < ·)→(∀ x ∈ U,0 ≤ x∧x < (k:Int))→tG (clo X U) c (fun x=>tG (sym U) r fun y=>F U (y ++ x)) = Q u ^ c * (u:Rat) ^ r * vB φ f u c r:=by
 have hstk:∀ u U c,U.length = u→u ≤ k→U.Pairwise (· < ·)→(∀ x ∈ U,0 ≤ x∧x < (k:Int))→tG (clo X U) c (fun x=>F U x) = Q u ^ c * φ u:=by
  intro u U c hu hk hn hin
  rw [tG_congr (G:=fun _=>φ u) fun l hl hx=>?_,tG_const,hE.cloud U hn hin,hu]
  rw [hF.stuck U l (sorted_nd hn) (by omega) fun s hs=>?_,hu]
  obtain ⟨w,hw⟩:=hx s hs
  have:=List.mem_filter.1 hw
  exact ⟨List.mem_map.2 ⟨_,this.1,rfl⟩,by simpa using this.2⟩
 intro u
 induction u with
 | zero=>
  intro U c r hu hk hn hin
  cases r with
  | zero=>
   simp only [tG,List.nil_append]
   rw [hstk 0 U c hu hk hn hin,vB,Rat.pow_zero,Rat.mul_one]
  | succ r=>
   obtain rfl:U = []:=List.eq_nil_of_length_eq_zero hu
   simp only [tG,sym,List.map_nil,sR]
   rw [tG_zero,Rat.pow_succ,show ((0:Nat):Rat) = 0 from rfl];grind
 | succ u ih=>
  intro U c r hu hk hso hin
  have hn:=sorted_nd hso
  cases r with
  | zero=>
   simp only [tG,List.nil_append]
   rw [hstk (u + 1) U c hu hk hso hin,vB,Rat.pow_zero,Rat.mul_one]
  | succ r=>
   have e1:∀ s ∈ U,tG (clo X U) c (fun x=>tG (sym U) r fun y=>F U ([s] :: (y ++ x))) = bsum r fun b=>bsum c fun a=>P (u + 1) ^ a * (Q u ^ (c - a) * (u:Rat) ^ (r - b + a) * vB φ f u (c - a) (r - b + a)):=by
    intro s hs
    have hn':(U.erase s).Nodup:=hn.erase s
    have hl':(U.erase s).length = u:=by rw [List.length_erase_of_mem hs,hu];rfl
    have hin':∀ x ∈ U.erase s,0 ≤ x∧x < (k:Int):=fun x hx=>hin x (List.mem_of_mem_erase hx)
    have hns:∀ x,x ∈ U.erase s→x ≠ s:=fun x hx=>(hn.mem_erase_iff.1 hx).1
    have k1:∀ x y:List (List Int),F U ([s] :: (y ++ x)) = F (U.erase s) (y ++ x):=fun x y=>hF.one U [s] _ s (.inr rfl) hs hn fun z=>by
     constructor
     ·rintro ⟨h,_⟩;simpa using h
     ·rintro rfl;simp [hs]
    simp only [k1]
    have k2:∀ x:List (List Int),tG (sym U) r (fun y=>F (U.erase s) (y ++ x)) = bsum r fun b=>tG (sym (U.erase s)) (r - b) fun y=>F (U.erase s) (y ++ x):=fun x=>by
     rw [tG_null (p:=fun t=>decide (t = [s])) (G:=fun y=>F (U.erase s) (y ++ x)) (fun l m h=>hF.perm _ _ _ (h.append_right x)) fun t ht hp l=>?_]
     ·rw [sym_one hn hs,sym_erase hn]
      exact bsum_congr fun b _=>by rw [show (1:Rat) ^ b = 1 from one_powR b,Rat.one_mul]
     ·rw [of_decide_eq_true hp]
      exact hF.none _ _ _ (by unfold cU;simp [hn.mem_erase_iff])
    simp only [k2]
    rw [tG_bsum]
    refine bsum_congr fun b _=>?_
    have hcl:∀ S ∈ X,cU U S.1 = cU (U.erase s) S.1 + if s ∈ S.1 then 1 else 0:=fun S hS=>cU_erase hn hs (hE.nd S hS)
    have k3:(clo X U).filter (fun S=>!(decide (cU U S.1 = 2) && S.1.contains s)) = clo X (U.erase s):=by
     unfold clo
     rw [List.filter_filter]
     refine List.filter_congr fun S hS=>?_
     have h1:=hcl S hS
     rw [Bool.eq_iff_iff]
     simp only [Bool.and_eq_true,Bool.not_eq_true',Bool.and_eq_false_iff,decide_eq_true_eq,decide_eq_false_iff_not]
     by_cases hm:s ∈ S.1
     ·simp only [hm,if_true] at h1
      simp [hm];omega
     ·simp only [hm,if_false] at h1
      simp [hm];omega
    have k4:(clo X U).filter (fun S=>decide (cU U S.1 = 2) && S.1.contains s) = X.filter fun S=>decide (cU U S.1 = 2) && S.1.contains s:=by
     unfold clo
     rw [List.filter_filter]
     refine List.filter_congr fun S hS=>?_
     rw [Bool.eq_iff_iff]
     simp only [Bool.and_eq_true,decide_eq_true_eq]
     constructor
     ·rintro ⟨h1,h2⟩;exact h1
     ·rintro h1;exact ⟨h1,by omega⟩
    rw [tG_conv (L:=clo X U) (M:=sym (U.erase s)) (p:=fun l=>decide (cU U l = 2) && l.contains s) (φ:=fun l=>l.filter fun x=>(U.erase s).contains x) (P:=P (u + 1)) (fun g=>?_) (fun l m h=>hF.perm _ _ _ h) fun S hS hp l=>?_]
    ·rw [k3]
     refine bsum_congr fun a _=>?_
     rw [ih (U.erase s) (c - a) (r - b + a) hl' (by omega) (hso.sublist List.erase_sublist) hin']
    ·rw [k4,hE.two U hso hin s hs g,hu]
     unfold sym
     rw [sR_map]
     simp only [Rat.one_mul]
    ·have hS:=(List.mem_filter.1 hS).1
     have h1:=hcl S hS
     simp only [Bool.and_eq_true,decide_eq_true_eq] at hp
     have hm:s ∈ S.1:=by simpa using hp.2
     rw [if_pos hm,hp.1] at h1
     have h3:(S.1.filter fun x=>(U.erase s).contains x).length = 1:=by unfold cU at h1;omega
     obtain ⟨t,ht⟩:=List.length_eq_one_iff.1 h3
     have hmt:∀ x,x ∈ S.1∧x ∈ U.erase s ↔ x = t:=fun x=>by
      have:x ∈ S.1.filter (fun x=>(U.erase s).contains x) ↔ x = t:=by rw [ht];simp
      rw [← this,List.mem_filter];simp
     have htU:=((hmt t).2 rfl).2
     simp only [ht]
     rw [hF.one _ _ l t (.inl (List.mem_map.2 ⟨S,hS,rfl⟩)) htU hn' hmt,hF.one _ [t] l t (.inr rfl) htU hn' fun z=>?_]
     constructor
     ·rintro ⟨h,_⟩;simpa using h
     ·rintro rfl;simp [htU]
   have e2:tG (clo X U) c (fun x=>tG (sym U) (r + 1) fun y=>F U (y ++ x)) = sR (fun s=>tG (clo X U) c fun x=>tG (sym U) r fun y=>F U ([s] :: (y ++ x))) U:=by
    rw [← tG_sR]
    exact tG_congr fun x _ _=>(sR_map _ _ U).trans (sR_congr fun t _=>Rat.one_mul _)
   rw [e2,sR_congr e1,sR_const,hu]
   simp only [vB]
   rw [bsum_comm,← bsum_mul,← bsum_mul]
   refine bsum_congr fun a ha=>?_
   rw [← bsum_mul,← bsum_mul]
   refine bsum_congr fun b hb=>?_
   have h0:((u + 1:Nat):Rat) ≠ 0:=by
    intro h
    have:((u + 1:Nat):Rat) = ((0:Nat):Rat):=h
    have:=Rat.natCast_inj.1 this
    omega
   have hg1:((u + 1:Nat):Rat) * (1 / ((u + 1:Nat):Rat)) = 1:=by grind
   have hg2:((u + 1:Nat):Rat) * (1 - 1 / ((u + 1:Nat):Rat)) = (u:Rat):=by
    have:((u + 1:Nat):Rat) = (u:Rat) + 1:=by push_cast;rfl
    grind
   have q1:=hf1 u (by omega)
   have q2:=hf2 u (by omega)
   generalize ((u + 1:Nat):Rat) = N at *
   have p1:Q (u + 1) ^ c = Q (u + 1) ^ a * Q (u + 1) ^ (c - a):=by rw [← pow_addR];congr 1;omega
   have p2:N ^ (r + 1) = N * (N ^ b * N ^ (r - b)):=by rw [Rat.pow_succ,← pow_addR,show b + (r - b) = r by omega,Rat.mul_comm]
   have p3:(u:Rat) ^ (r - b + a) = (u:Rat) ^ (r - b) * (u:Rat) ^ a:=pow_addR _ _ _
   have p4:Q (u + 1) ^ a * f (u + 1) ^ a = (u:Rat) ^ a * P (u + 1) ^ a:=by rw [← pow_mulR,← pow_mulR,q1]
   have p5:Q (u + 1) ^ (c - a) * (1 - f (u + 1)) ^ (c - a) = Q u ^ (c - a):=by rw [← pow_mulR,q2]
   have p6:N ^ b * (1 / N) ^ b = 1:=by rw [← pow_mulR,hg1];exact one_powR b
   have p7:N ^ (r - b) * (1 - 1 / N) ^ (r - b) = (u:Rat) ^ (r - b):=by rw [← pow_mulR,hg2]
   rw [p1,p2,p3]
   generalize vB φ f u (c - a) (r - b + a) = V
   generalize f (u + 1) ^ a = fa at *
   generalize (1 - f (u + 1)) ^ (c - a) = fb at *
   generalize (1 / N) ^ b = ga at *
   generalize (1 - 1 / N) ^ (r - b) = gb at *
   generalize N ^ b = Na at *
   generalize N ^ (r - b) = Nb at *
   rw [← p5,← p7]
   have:N * (P (u + 1) ^ a * (Q (u + 1) ^ (c - a) * fb * (Nb * gb * (u:Rat) ^ a) * V)) = N * ((u:Rat) ^ a * P (u + 1) ^ a) * (Q (u + 1) ^ (c - a) * fb) * (Nb * gb) * V:=by grind
   rw [this,← p4]
   have:Q (u + 1) ^ a * Q (u + 1) ^ (c - a) * (N * (Na * Nb)) * (fa * fb * (ga * gb) * V) = N * (Q (u + 1) ^ a * fa) * (Q (u + 1) ^ (c - a) * fb) * (Nb * gb) * V * (Na * ga):=by grind
   rw [this,p6,Rat.mul_one]
open Go Go.Proofs Go.RowKit
/-! The recursion, forward, place by place. -/
def addAt (l:List Rat) (j:Nat) (x:Rat):List Rat:=l.set j (l.getD j 0 + x)
def shar (p:Rat) (m s:Nat):Rat:=(chs m s:Rat) * p ^ s * (1 - p) ^ (m - s)
def inR (n:Nat) (f g y:Rat) (c r:Nat) (l:List Rat):List Rat:=
 (List.range (c + 1)).foldl (fun l a=>if shar f c a = 0 then l else (List.range r).foldl (fun l b=>addAt l ((c - a) * (n + 1) + (r - 1 - b + a)) (y * shar f c a * shar g (r - 1) b)) l) l
def nextR (f g:Rat) (n:Nat) (x:List Rat):List Rat:=
 (List.range ((n + 1) * (n + 1))).foldl (fun l i=>if i % (n + 1) = 0∨x.getD i 0 = 0 then l else inR n f g (x.getD i 0) (i / (n + 1)) (i % (n + 1)) l) (List.replicate ((n + 1) * (n + 1)) 0)
def firstR (p:Rat) (n:Nat):List Rat:=(List.range (n + 1)).foldl (fun l r=>l.set ((n - r) * (n + 1) + r) (shar p n r)) (List.replicate ((n + 1) * (n + 1)) 0)
def dotF (n:Nat) (v:Nat→Nat→Rat) (x:List Rat) (i:Nat):Rat:=x.getD i 0 * v (i / (n + 1)) (i % (n + 1))
def dot (n:Nat) (v:Nat→Nat→Rat) (x:List Rat):Rat:=sR (dotF n v x) (List.range ((n + 1) * (n + 1)))
theorem sR_set {f g:Nat→Rat} {N j:Nat} (hj:j < N) (d:Rat) (h:∀ i,i < N→g i = f i + if i = j then d else 0):sR g (List.range N) = sR f (List.range N) + d:=by
 have key:∀ M,M ≤ N→sR g (List.range M) = sR f (List.range M) + if j < M then d else 0:=by
  intro M
  induction M with
  | zero=>intro _;simp only [List.range_zero,sR,Nat.not_lt_zero,if_false];grind
  | succ M ih=>
   intro hM
   rw [List.range_succ,sR_app,sR_app,ih (by omega)]
   simp only [sR]
   rw [h M (by omega)]
   by_cases e:M = j
   ·subst e;rw [if_pos rfl,if_neg (by omega),if_pos (by omega)];grind
   ·by_cases e2:j < M
    ·rw [if_neg e,if_pos e2,if_pos (by omega)];grind
    ·rw [if_neg e,if_neg e2,if_neg (by omega)];grind
 rw [key N (Nat.le_refl _),if_pos hj]
theorem getD_setR (l:List Rat) (i j:Nat) (x:Rat) (hj:j < l.length):(l.set j x).getD i 0 = if i = j then x else l.getD i 0:=by
 simp only [List.getD_eq_getElem?_getD,List.getElem?_set]
 by_cases e:i = j
 ·subst e;simp [hj]
 ·rw [if_neg (fun h=>e h.symm),if_neg e]
theorem dot_set {n:Nat} {v:Nat→Nat→Rat} {x:List Rat} (hx:x.length = (n + 1) * (n + 1)) {j:Nat} (hj:j < (n + 1) * (n + 1)) (y:Rat):dot n v (x.set j y) = dot n v x + (y - x.getD j 0) * v (j / (n + 1)) (j % (n + 1)):=by
 unfold dot
 refine sR_set hj _ fun i hi=>?_
 unfold dotF
 rw [getD_setR _ _ _ _ (by omega)]
 by_cases e:i = j
 ·subst e;rw [if_pos rfl,if_pos rfl];grind
 ·rw [if_neg e,if_neg e];grind
theorem dot_addAt {n:Nat} {v:Nat→Nat→Rat} {x:List Rat} (hx:x.length = (n + 1) * (n + 1)) {j:Nat} (hj:j < (n + 1) * (n + 1)) (y:Rat):dot n v (addAt x j y) = dot n v x + y * v (j / (n + 1)) (j % (n + 1)):=by
 unfold addAt;rw [dot_set hx hj];grind
theorem addAt_len (l:List Rat) (j:Nat) (x:Rat):(addAt l j x).length = l.length:=by simp [addAt]
theorem getD_repl (N i:Nat):(List.replicate N (0:Rat)).getD i 0 = 0:=by
 rw [List.getD_eq_getElem?_getD,List.getElem?_replicate];split <;> rfl
theorem dot_zero (n N:Nat) (v:Nat→Nat→Rat):dot n v (List.replicate N 0) = 0:=by
 unfold dot
 rw [sR_congr (g:=fun _=>0) fun i _=>?_,sR_zero]
 unfold dotF;rw [getD_repl,Rat.zero_mul]
theorem foldl_dot {α:Type} {n:Nat} {v:Nat→Nat→Rat} {st:List Rat→α→List Rat} {h:α→Rat}:∀ {M:List α} (_:∀ a ∈ M,∀ l:List Rat,l.length = (n + 1) * (n + 1)→(st l a).length = (n + 1) * (n + 1)∧dot n v (st l a) = dot n v l + h a) (l:List Rat),
  l.length = (n + 1) * (n + 1)→(M.foldl st l).length = (n + 1) * (n + 1)∧dot n v (M.foldl st l) = dot n v l + sR h M
 | [],_,l,hl=>⟨hl,by simp only [List.foldl_nil,sR];grind⟩
 | a :: M,H,l,hl=>by
  obtain ⟨h1,h2⟩:=H a (by simp) l hl
  obtain ⟨h3,h4⟩:=foldl_dot (M:=M) (fun b hb=>H b (by simp [hb])) (st l a) h1
  exact ⟨h3,by rw [List.foldl_cons,h4,h2];simp only [sR];grind⟩
theorem sR_shift (f:Nat→Rat) (N:Nat):sR f (List.range (N + 1)) = f 0 + sR (fun a=>f (a + 1)) (List.range N):=by
 rw [List.range_succ_eq_map];simp only [sR];rw [sR_map]
theorem sR_last (f:Nat→Rat) (N:Nat):sR f (List.range (N + 1)) = sR f (List.range N) + f N:=by
 rw [List.range_succ,sR_app];simp only [sR];grind
theorem bsum_chs:∀ (c:Nat) (h:Nat→Rat),sR (fun a=>(chs c a:Rat) * h a) (List.range (c + 1)) = bsum c h
 | 0,h=>by simp only [List.range_succ,List.range_zero,List.nil_append,sR,bsum,chs_zero];push_cast;grind
 | c + 1,h=>by
  have h1:=bsum_chs c h
  have h2:=bsum_chs c fun a=>h (a + 1)
  rw [sR_shift] at h1 ⊢
  simp only [bsum]
  rw [← h1,← h2,sR_congr (f:=fun a=>(chs (c + 1) (a + 1):Rat) * h (a + 1)) (g:=fun a=>(chs c a:Rat) * h (a + 1) + (chs c (a + 1):Rat) * h (a + 1)) fun a _=>by rw [chs_succ];push_cast;grind]
  rw [sR_add,sR_last (fun a=>(chs c (a + 1):Rat) * h (a + 1)),chs_over (n:=c) (k:=c + 1) (by omega),chs_zero,chs_zero]
  simp only [show ((0:Nat):Rat) = 0 from rfl]
  grind
theorem bsum_shar (p:Rat) (c:Nat) (h:Nat→Rat):sR (fun a=>shar p c a * h a) (List.range (c + 1)) = bsum c fun a=>p ^ a * (1 - p) ^ (c - a) * h a:=by
 rw [← bsum_chs]
 exact sR_congr fun a _=>by unfold shar;grind
theorem place_div {n q r:Nat} (h:r < n + 1):(q * (n + 1) + r) / (n + 1) = q∧(q * (n + 1) + r) % (n + 1) = r:=by
 constructor
 ·rw [Nat.mul_comm,Nat.mul_add_div (by omega),Nat.div_eq_of_lt h,Nat.add_zero]
 ·rw [Nat.mul_comm,Nat.mul_add_mod,Nat.mod_eq_of_lt h]
theorem place_lt {n q r:Nat} (hq:q ≤ n) (h:r ≤ n):q * (n + 1) + r < (n + 1) * (n + 1):=by
 have:=Nat.mul_le_mul_right (n + 1) hq
 rw [Nat.add_mul];omega
theorem inR_dot {n c r:Nat} {v:Nat→Nat→Rat} {f g y:Rat} {l:List Rat} (hl:l.length = (n + 1) * (n + 1)) (hcr:c + r ≤ n) (hr:1 ≤ r):(inR n f g y c r l).length = (n + 1) * (n + 1) ∧
  dot n v (inR n f g y c r l) = dot n v l + y * bsum c fun a=>bsum (r - 1) fun b=>(f ^ a * (1 - f) ^ (c - a)) * (g ^ b * (1 - g) ^ (r - 1 - b)) * v (c - a) (r - 1 - b + a):=by
 have hin:∀ a,a ∈ List.range (c + 1)→∀ l:List Rat,l.length = (n + 1) * (n + 1)→((List.range r).foldl (fun l b=>addAt l ((c - a) * (n + 1) + (r - 1 - b + a)) (y * shar f c a * shar g (r - 1) b)) l).length = (n + 1) * (n + 1) ∧
   dot n v ((List.range r).foldl (fun l b=>addAt l ((c - a) * (n + 1) + (r - 1 - b + a)) (y * shar f c a * shar g (r - 1) b)) l) = dot n v l + sR (fun b=>y * shar f c a * shar g (r - 1) b * v (c - a) (r - 1 - b + a)) (List.range r):=by
  intro a ha l hl
  have ha:=List.mem_range.1 ha
  refine foldl_dot (fun b hb l hl=>?_) l hl
  have hb:=List.mem_range.1 hb
  obtain ⟨k1,k2⟩:=place_div (n:=n) (q:=c - a) (r:=r - 1 - b + a) (by omega)
  have:=dot_addAt (v:=v) hl (place_lt (n:=n) (q:=c - a) (r:=r - 1 - b + a) (by omega) (by omega)) (y * shar f c a * shar g (r - 1) b)
  rw [k1,k2] at this
  exact ⟨by rw [addAt_len,hl],this⟩
 unfold inR
 obtain ⟨h1,h2⟩:=foldl_dot (n:=n) (v:=v) (h:=fun a=>sR (fun b=>y * shar f c a * shar g (r - 1) b * v (c - a) (r - 1 - b + a)) (List.range r)) (M:=List.range (c + 1)) (st:=fun l a=>if shar f c a = 0 then l else (List.range r).foldl (fun l b=>addAt l ((c - a) * (n + 1) + (r - 1 - b + a)) (y * shar f c a * shar g (r - 1) b)) l) (fun a ha l hl=>by
  by_cases e:shar f c a = 0
  ·rw [if_pos e]
   refine ⟨hl,?_⟩
   rw [sR_congr (g:=fun _=>0) fun b _=>by rw [e];grind,sR_zero];grind
  ·rw [if_neg e];exact hin a ha l hl) l hl
 refine ⟨h1,?_⟩
 rw [h2]
 congr 1
 rw [← bsum_mul]
 have e1:=bsum_shar f c fun a=>y * bsum (r - 1) fun b=>g ^ b * (1 - g) ^ (r - 1 - b) * v (c - a) (r - 1 - b + a)
 rw [bsum_congr (g:=fun a=>f ^ a * (1 - f) ^ (c - a) * (y * bsum (r - 1) fun b=>g ^ b * (1 - g) ^ (r - 1 - b) * v (c - a) (r - 1 - b + a))) fun a _=>by
  rw [← bsum_mul,← bsum_mul,← bsum_mul]
  exact bsum_congr fun b _=>by grind]
 rw [← e1]
 refine sR_congr fun a _=>?_
 rw [← bsum_mul,← bsum_mul]
 have e2:=bsum_shar g (r - 1) fun b=>shar f c a * (y * v (c - a) (r - 1 - b + a))
 rw [show r - 1 + 1 = r by omega] at e2
 rw [bsum_congr (g:=fun b=>g ^ b * (1 - g) ^ (r - 1 - b) * (shar f c a * (y * v (c - a) (r - 1 - b + a)))) fun b _=>by grind,← e2]
 exact sR_congr fun b _=>by grind
open Go Go.Proofs Go.RowKit
structure Supp (n:Nat) (l:List Rat):Prop where
 len:l.length = (n + 1) * (n + 1)
 z:∀ i,i < (n + 1) * (n + 1)→n < i / (n + 1) + i % (n + 1)→l.getD i 0 = 0
theorem supp_zero (n:Nat):Supp n (List.replicate ((n + 1) * (n + 1)) 0):=⟨by simp,fun i _ _=>getD_repl _ i⟩
theorem supp_set {n q r:Nat} {l:List Rat} (h:Supp n l) (hq:q + r ≤ n) (y:Rat):Supp n (l.set (q * (n + 1) + r) y):=by
 refine ⟨by rw [List.length_set,h.len],fun i hi hn=>?_⟩
 rw [getD_setR _ _ _ _ (by rw [h.len];exact place_lt (by omega) (by omega))]
 by_cases e:i = q * (n + 1) + r
 ·obtain ⟨k1,k2⟩:=place_div (n:=n) (q:=q) (r:=r) (by omega)
  rw [e,k1,k2] at hn;omega
 ·rw [if_neg e];exact h.z i hi hn
theorem foldl_inv {α β:Type} (p:β→Prop) {st:β→α→β}:∀ {M:List α} {l:β},(∀ a ∈ M,∀ l,p l→p (st l a))→p l→p (M.foldl st l)
 | [],_,_,h=>h
 | a :: M,l,H,h=>foldl_inv p (M:=M) (fun b hb=>H b (by simp [hb])) (H a (by simp) l h)
theorem supp_in {n c r:Nat} {f g y:Rat} {l:List Rat} (h:Supp n l) (hcr:c + r ≤ n) (hr:1 ≤ r):Supp n (inR n f g y c r l):=by
 unfold inR
 refine foldl_inv (Supp n) (fun a ha l h=>?_) h
 have ha:=List.mem_range.1 ha
 split
 ·exact h
 ·refine foldl_inv (Supp n) (fun b hb l h=>?_) h
  have hb:=List.mem_range.1 hb
  exact supp_set h (by omega) _
theorem supp_next {n:Nat} {f g:Rat} {x:List Rat} (hx:Supp n x):Supp n (nextR f g n x):=by
 unfold nextR
 refine foldl_inv (Supp n) (fun i hi l h=>?_) (supp_zero n)
 have hi:=List.mem_range.1 hi
 split
 ·exact h
 ·rename_i e
  refine supp_in h ?_ (by omega)
  rcases Nat.lt_or_ge n (i / (n + 1) + i % (n + 1)) with h1 | h1
  ·exact absurd (.inr (hx.z i hi h1)) e
  ·exact h1
theorem supp_first (p:Rat) (n:Nat):Supp n (firstR p n):=by
 unfold firstR
 refine foldl_inv (Supp n) (fun r hr l h=>?_) (supp_zero n)
 exact supp_set h (by have:=List.mem_range.1 hr;omega) _
theorem next_dot {n:Nat} {v:Nat→Nat→Rat} {f g:Rat} {x:List Rat} (hx:Supp n x) :
  dot n v (nextR f g n x) = sR (fun i=>if i % (n + 1) = 0 then 0 else x.getD i 0 * bsum (i / (n + 1)) fun a=>bsum (i % (n + 1) - 1) fun b=>(f ^ a * (1 - f) ^ (i / (n + 1) - a)) * (g ^ b * (1 - g) ^ (i % (n + 1) - 1 - b)) * v (i / (n + 1) - a) (i % (n + 1) - 1 - b + a)) (List.range ((n + 1) * (n + 1))):=by
 unfold nextR
 refine (foldl_dot (n:=n) (v:=v) (M:=List.range ((n + 1) * (n + 1))) (st:=fun l i=>if i % (n + 1) = 0∨x.getD i 0 = 0 then l else inR n f g (x.getD i 0) (i / (n + 1)) (i % (n + 1)) l)
  (h:=fun i=>if i % (n + 1) = 0 then 0 else x.getD i 0 * bsum (i / (n + 1)) fun a=>bsum (i % (n + 1) - 1) fun b=>(f ^ a * (1 - f) ^ (i / (n + 1) - a)) * (g ^ b * (1 - g) ^ (i % (n + 1) - 1 - b)) * v (i / (n + 1) - a) (i % (n + 1) - 1 - b + a)) (fun i hi l hl=>?_) (List.replicate ((n + 1) * (n + 1)) 0) (by simp)).2.trans ?_
 ·have hi:=List.mem_range.1 hi
  by_cases e1:i % (n + 1) = 0
  ·rw [if_pos (.inl e1),if_pos e1];exact ⟨hl,by grind⟩
  ·rw [if_neg e1]
   by_cases e2:x.getD i 0 = 0
   ·rw [if_pos (.inr e2),e2];exact ⟨hl,by grind⟩
   ·rw [if_neg (by rintro (h | h);exact e1 h;exact e2 h)]
    refine inR_dot hl ?_ (by omega)
    rcases Nat.lt_or_ge n (i / (n + 1) + i % (n + 1)) with h1 | h1
    ·exact absurd (hx.z i hi h1) e2
    ·exact h1
 ·rw [dot_zero,Rat.zero_add]
theorem first_dot (p:Rat) (n:Nat) (v:Nat→Nat→Rat):dot n v (firstR p n) = bsum n fun r=>p ^ r * (1 - p) ^ (n - r) * v (n - r) r:=by
 rw [← bsum_shar]
 have key:∀ m,m ≤ n + 1→((List.range m).foldl (fun l r=>l.set ((n - r) * (n + 1) + r) (shar p n r)) (List.replicate ((n + 1) * (n + 1)) 0)).length = (n + 1) * (n + 1) ∧
   (∀ r,m ≤ r→r ≤ n→((List.range m).foldl (fun l r=>l.set ((n - r) * (n + 1) + r) (shar p n r)) (List.replicate ((n + 1) * (n + 1)) 0)).getD ((n - r) * (n + 1) + r) 0 = 0) ∧
   dot n v ((List.range m).foldl (fun l r=>l.set ((n - r) * (n + 1) + r) (shar p n r)) (List.replicate ((n + 1) * (n + 1)) 0)) = sR (fun r=>shar p n r * v (n - r) r) (List.range m):=by
  intro m
  induction m with
  | zero=>intro _;exact ⟨by simp,fun r _ _=>getD_repl _ _,by simp only [List.range_zero,List.foldl_nil,sR];exact dot_zero _ _ _⟩
  | succ m ih=>
   intro hm
   obtain ⟨h1,h2,h3⟩:=ih (by omega)
   obtain ⟨k1,k2⟩:=place_div (n:=n) (q:=n - m) (r:=m) (by omega)
   have hlt:=place_lt (n:=n) (q:=n - m) (r:=m) (by omega) (by omega)
   rw [List.range_succ,List.foldl_append,List.foldl_cons,List.foldl_nil,sR_app]
   refine ⟨by rw [List.length_set,h1],fun r hr1 hr2=>?_,?_⟩
   ·rw [getD_setR _ _ _ _ (by rw [h1];exact hlt),if_neg,h2 r (by omega) hr2]
    intro e
    obtain ⟨_,k4⟩:=place_div (n:=n) (q:=n - r) (r:=r) (by omega)
    rw [e,k2] at k4;omega
   ·rw [dot_set h1 hlt,h3,h2 m (Nat.le_refl _) (by omega),k1,k2]
    simp only [sR];grind
 exact (key (n + 1) (Nat.le_refl _)).2.2
def lvR (p:Rat) (f:Nat→Rat) (n k:Nat):Nat→List Rat
 | 0=>firstR p n
 | j + 1=>nextR (f (k - j)) (1 / ((k - j:Nat):Rat)) n (lvR p f n k j)
def stuckR (n u:Nat) (x:List Rat):Rat:=sR (fun i=>if u = 0∨i % (n + 1) = 0 then x.getD i 0 else 0) (List.range ((n + 1) * (n + 1)))
theorem supp_lv (p:Rat) (f:Nat→Rat) (n k:Nat):∀ j,Supp n (lvR p f n k j)
 | 0=>supp_first p n
 | j + 1=>supp_next (supp_lv p f n k j)
theorem step_dot {n u:Nat} (φ f:Nat→Rat) {x:List Rat} (hx:Supp n x):dot n (vB φ f (u + 1)) x = φ (u + 1) * stuckR n (u + 1) x + dot n (vB φ f u) (nextR (f (u + 1)) (1 / ((u + 1:Nat):Rat)) n x):=by
 rw [next_dot hx]
 unfold dot stuckR
 rw [← sR_mul,← sR_add]
 refine sR_congr fun i _=>?_
 unfold dotF
 by_cases e:i % (n + 1) = 0
 ·rw [if_pos (.inr e),if_pos e,e,vB];grind
 ·rw [if_neg (by omega),if_neg e]
  obtain ⟨r,hr⟩ : ∃ r,i % (n + 1) = r + 1:=⟨i % (n + 1) - 1,by omega⟩
  rw [hr,vB,Nat.add_sub_cancel];grind
theorem last_dot {n:Nat} (φ f:Nat→Rat) (x:List Rat):dot n (vB φ f 0) x = φ 0 * stuckR n 0 x:=by
 unfold dot stuckR
 rw [← sR_mul]
 refine sR_congr fun i _=>?_
 unfold dotF
 rw [if_pos (.inl rfl),vB,Rat.mul_comm]
theorem stuck_dual (p:Rat) (φ f:Nat→Rat) (n k:Nat):sR (fun u=>φ u * stuckR n u (lvR p f n k (k - u))) (List.range (k + 1)) = bsum n fun r=>p ^ r * (1 - p) ^ (n - r) * vB φ f k (n - r) r:=by
 have key:∀ u,u ≤ k→dot n (vB φ f u) (lvR p f n k (k - u)) = sR (fun u=>φ u * stuckR n u (lvR p f n k (k - u))) (List.range (u + 1)):=by
  intro u
  induction u with
  | zero=>intro _;rw [last_dot];simp only [List.range_succ,List.range_zero,List.nil_append,sR];grind
  | succ u ih=>
   intro hu
   rw [step_dot φ f (supp_lv p f n k _),sR_last,← ih (by omega),Rat.add_comm]
   congr 2
   rw [show k - u = k - (u + 1) + 1 by omega,lvR,show k - (k - (u + 1)) = u + 1 by omega]
 rw [← key k (Nat.le_refl _),Nat.sub_self,lvR,first_dot]
theorem core_top {k:Nat} {X:List (List Int × Rat)} {φ:Nat→Rat} {F:List Int→List (List Int)→Rat} {Q P f:Nat→Rat} {P1:Rat} (hF:Core k (X.map (·.1)) φ F) (hE:Even k X Q P)
  (hf1:∀ u,u < k→Q (u + 1) * f (u + 1) = (u:Rat) * P (u + 1)) (hf2:∀ u,u < k→Q (u + 1) * (1 - f (u + 1)) = Q u)
  {U:List Int} (hU:U.Pairwise (· < ·)) (hk:U.length = k) (hin:∀ x ∈ U,0 ≤ x∧x < (k:Int)) (hne:∀ S ∈ X,1 ≤ cU U S.1)
  (h1:∀ g:List Int→Rat,sR (fun S=>S.2 * g (S.1.filter fun x=>U.contains x)) (X.filter fun S=>decide (cU U S.1 = 1)) = P1 * sR (fun t=>g [t]) U) (n:Nat) :
  tG X n (F U) = bsum n fun r=>((k:Rat) * P1) ^ r * Q k ^ (n - r) * vB φ f k (n - r) r:=by
 have e1:tG X n (F U) = tG X n fun x=>tG (sym U) 0 fun y=>F U (y ++ x):=rfl
 have e2:X.filter (fun S=>!(decide (cU U S.1 = 1))) = clo X U:=by
  unfold clo
  refine List.filter_congr fun S hS=>?_
  have:=hne S hS
  rw [Bool.eq_iff_iff];simp;omega
 rw [e1,tG_conv (L:=X) (M:=sym U) (p:=fun l=>decide (cU U l = 1)) (φ:=fun l=>l.filter fun x=>U.contains x) (P:=P1) (fun g=>?_) (fun l m h=>hF.perm _ _ _ h) fun S hS hp l=>?_]
 ·rw [e2]
  refine bsum_congr fun r hr=>?_
  rw [core_rec hF hE hf1 hf2 k U (n - r) (0 + r) hk (Nat.le_refl _) hU hin,Nat.zero_add,pow_mulR]
  grind
 ·rw [h1 g]
  unfold sym
  rw [sR_map]
  simp only [Rat.one_mul]
 ·have hp:=of_decide_eq_true hp
  unfold cU at hp
  obtain ⟨t,ht⟩:=List.length_eq_one_iff.1 hp
  have hmt:∀ x,x ∈ S.1∧x ∈ U ↔ x = t:=fun x=>by
   have:x ∈ S.1.filter (fun x=>U.contains x) ↔ x = t:=by rw [ht];simp
   rw [← this,List.mem_filter];simp
  have htU:=((hmt t).2 rfl).2
  simp only [ht]
  rw [hF.one _ _ l t (.inl (List.mem_map.2 ⟨S,hS,rfl⟩)) htU (sorted_nd hU) hmt,hF.one _ [t] l t (.inr rfl) htU (sorted_nd hU) fun z=>?_]
  constructor
  ·rintro ⟨h,_⟩;simpa using h
  ·rintro rfl;simp [htU]
theorem ripple_true {k:Nat} {X:List (List Int × Rat)} {φ:Nat→Rat} {F:List Int→List (List Int)→Rat} {Q P f:Nat→Rat} {P1 p:Rat} (hF:Core k (X.map (·.1)) φ F) (hE:Even k X Q P)
  (hf1:∀ u,u < k→Q (u + 1) * f (u + 1) = (u:Rat) * P (u + 1)) (hf2:∀ u,u < k→Q (u + 1) * (1 - f (u + 1)) = Q u)
  {U:List Int} (hU:U.Pairwise (· < ·)) (hk:U.length = k) (hin:∀ x ∈ U,0 ≤ x∧x < (k:Int)) (hne:∀ S ∈ X,1 ≤ cU U S.1)
  (h1:∀ g:List Int→Rat,sR (fun S=>S.2 * g (S.1.filter fun x=>U.contains x)) (X.filter fun S=>decide (cU U S.1 = 1)) = P1 * sR (fun t=>g [t]) U) (hp:p = (k:Rat) * P1) (hq:1 - p = Q k) (n:Nat) :
  sR (fun u=>φ u * stuckR n u (lvR p f n k (k - u))) (List.range (k + 1)) = tG X n (F U):=by
 rw [stuck_dual,core_top hF hE hf1 hf2 hU hk hin hne h1,← hp,← hq]
end Go.Art
