/- Texts put together: Xi Bs Er Bg En Sb Gh Ar Df Oc Ow Cl Cr Pk Pp Re Eq. Conditions: none. -/
import Derived.Test.YtmdpconhbmkokaaGreatWUc
set_option linter.unusedSimpArgs false
set_option linter.unusedVariables false
namespace Go.Art
open Go Go.Proofs Go.RowKit
attribute [local irreducible] Fit pt own ro vw mpc lpt vels rels mow lrc dfr
attribute [local irreducible] lmp lme mit velg relg
theorem Clone_tr (b:Value) (m:List Int) (hm:m.length ≤ 1099511627776):Tr Tryz.prog 55 [b] [vw b (By m)] [] fun v D=>v.oneCell' = true∧D = [own TyB v (By m)]:=by
 refine Tr.enter env _ Tryz.func55 (by kernel_rfl) rfl Tryz.ntmps55 rfl (by repeat (first | exact has00 | refine has01 ?_)) fun w0=>?_
 refine TC.fact (p:=∃ o c,b = .slice o m.length c∧(o = none→m = [])) (fun w hw=>by
  obtain ⟨o,c,h1,h2,h3,h4⟩:=has_sl hw (v:=b) (xs:=By m) hasA
  rw [By_len] at h1
  refine ⟨o,c,h1,fun e=>?_⟩
  subst e
  cases m with
  | nil=>rfl
  | cons x r=>obtain ⟨_,h,_⟩:=h4 0 _ (by rfl);cases h) fun ⟨o,c,hb,hn⟩=>?_
 subst hb
 cases o with
 | none=>
  have:=hn rfl
  subst this
  repeat' first|(refine wo ?_;first|(refine ao ?_;first|refine isl ?_)|refine oa ?_)|(refine gc ?_;first|refine ct ?_)|refine sq ?_|refine rg ?_|refine xc ?_|refine nl ?_|refine rt ?_
  refine TX.im (own_nil TyB _) ?_
  exact r1 ⟨rfl,rfl⟩
 | some o=>
  repeat' first|(refine wo ?_;first|(refine ao ?_;first|refine isl ?_)|refine oa ?_)|(refine gc ?_;first|refine cf ?_)|refine sq ?_|refine rg ?_|refine xc ?_|refine nl ?_|refine sk ?_
  refine sl0 fun v0=>?_
  repeat' first|(refine wo ?_;first|refine oa ?_)
  refine ap (xs:=[]) (news:=By m) (fun v=>?_) (h1:=By_one _) (hby:=by rw [By_len];simp;omega) (h63:=by rw [By_len];simp;omega)
  refine TO.one (v:=v) (xs:=By m) fun hv=>?_
  repeat' first|(refine wo ?_;first|refine oa ?_)|refine xc ?_|refine nl ?_|refine rt ?_
  exact r1 ⟨hv,rfl⟩
theorem Into_tr (a b:Value) (l m:List Int) (hl:l.length = m.length):Tr Tryz.prog 96 [a,b] [vw b (By m)] [own TyB a (By l)] fun v D=>v = I 0∧D = [own TyB a (By (xorL l m))]:=by
 have h1:=By_len l
 have h2:=By_len m
 refine Tr.enter env _ Tryz.func96 (by kernel_rfl) rfl Tryz.ntmps96 rfl (by repeat (first | exact has00 | refine has01 ?_)) fun w0=>?_
 repeat' first|(refine gca ?_;first|(refine ca (add_tr a b l m hl) ?_;rintro _ _ rfl))|refine ln (xs:=By l) ?_|refine ln (xs:=By m) ?_|(refine wo ?_;first|(refine ao ?_;first|refine oa ?_)|refine oa ?_)|(refine gc ?_;first|(refine cn (fun hB=>?_) (fun hB=>?_) <;> try (exfalso;omega)))|refine sq ?_|refine rg ?_|refine xc ?_|refine nl ?_|refine sk ?_|refine rt ?_
 exact r1 ⟨rfl,rfl⟩
end Go.Art
namespace Go.Art
open Go Go.Proofs Go.RowKit
def lastOf (is:List Int) (i:Nat):Int:=if i = 0 then -1 else is.getD (i - 1) 0
structure Rise (is:List Int) (k:Int):Prop where
 up:∀ i:Nat,i < is.length→lastOf is i < is.getD i 0
 lt:∀ x ∈ is,0 ≤ x∧x < k
def sumI (ls:List (List Int)) (is:List Int) (z:List Int):Nat→List Int
 | 0=>z
 | i + 1=>xorL (sumI ls is z i) (ls.getD (is.getD i 0).toNat [])
theorem sumI_len {ls:List (List Int)} {is z:List Int} {size:Nat} (hr:Rise is ls.length) (hls:∀ m ∈ ls,m.length = size) (hz:z.length = size) (i:Nat):i ≤ is.length→(sumI ls is z i).length = size:=by
 induction i with
 | zero=>exact fun _=>hz
 | succ i ih=>
  intro h
  have h1:=ih (by omega)
  have hx:=hr.lt _ (mem_getD.2 ⟨i,by omega,rfl⟩)
  have h2:=hls _ (getD_memL (ls:=ls) (i:=(is.getD i 0).toNat) (by omega))
  unfold sumI
  rw [xorL_len (by rw [h1,h2]),h1]
section
variable {P:Program} {E:Env P} {n:Sh} {X:Cx} {s:List K} {fr:Fr} {A:List Ch} {ops:Array Oper} {rest:List Oper} {d:Nat} {ty t:TypeId} {pos:String} {after:Array Edge} {x y:Operand} {k1:IntKind} {m:Int} {by_:Nat}
theorem mkb {e:TypeId} (k:∀ v',TO E n X s ops rest ((d,v') :: fr) (own e v' (By (List.replicate m.toNat 0)) :: A)) (hx:ev fr x = some (.int k1 m):=by rfl) (hy:ev fr y = some (.int k1 m):=by rfl) (ht:lk E.und t = some (.slice e):=by rfl) (he:lk E.inf e = some (y8 0,1,by_):=by rfl)
  (h0:0 ≤ m:=by omega) (hby:m ≤ 35184372088832:=by omega) (h8:by_ ≤ 8:=by decide) (hd:Nat.blt d n.n = true:=by rfl):TO E n X s ops (⟨some d,.makeSlice t x y,ty,pos,after,none⟩ :: rest) fr A:=
 mk (fun v'=>by have:=k v';rwa [By,List.map_replicate] at this) hx hy ht he rfl h0 (Nat.le_trans (Nat.mul_le_mul_right _ h8) (by omega)) (by omega) hd
end
attribute [local irreducible] Fit pt own ro vw mpc lpt vels rels mow lrc dfr
attribute [local irreducible] lmp lme mit velg relg
abbrev TyV:TypeId:=25
abbrev TyO:TypeId:=4
theorem Named1_tr (l Dm bad p8 c1 c2 c3:Nat) (rec:Loop) (sv s o:Value) (hs:List Value) (ls:List (List Int)) (is:List Int) (size:Nat) (z:List Int) (hr:Rise is ls.length) (hls:∀ m ∈ ls,m.length = size) (hz:z.length = size)
  (hy:∀ acc m h,acc.length = size→m.length = size→Ty Tryz.prog l [h] [vw h (By m)] [lrc l rec .ready none,dfr Dm,pt p8 [o] TyV,own TyB o (By acc)] fun ok B=>ok = true∧B = [lrc l rec .ready none,dfr Dm,pt p8 [o] TyV,own TyB o (By (xorL acc m))]) :
  Tr Tryz.prog 132 [yv l,ptr c1,ptr c2,ptr c3] [lpt c1 [sv] 22,lpt c2 [s] 63,lpt c3 [ptr bad] 143,vw sv (Is is),vw s hs,velg y8 hs ls] [lrc l rec .ready none,dfr Dm,pt bad [.bool false] TyO,pt p8 [o] TyV,own TyB o (By z)]
   fun _ B=>B = [lrc l rec .ready none,dfr Dm,pt bad [.bool false] TyO,pt p8 [o] TyV,own TyB o (By (sumI ls is z is.length))]:=by
 have hlen:=sumI_len hr hls hz
 refine Tr.enter env _ Tryz.func132 (by kernel_rfl) rfl Tryz.ntmps132 rfl (by repeat (first | exact has00 | refine has01 ?_)) fun w0=>?_
 refine TC.leni (v:=sv) (l:=is) fun hil=>?_
 refine TC.elg (g:=y8) (hs:=hs) (ls:=ls) (fun hl=>?_)
 refine TC.fact (vw_len (v:=s) (xs:=hs) hasA) fun hsl=>?_
 repeat' first|(refine wo ?_;first|refine oa ?_|refine ldl ?_|refine lnm ?_)|refine sq ?_|refine rg ?_|refine xc ?_|refine nl ?_|refine bk ?_
 refine TC.loop (ι:=Nat) (fun i=>[(10,I i),(5,I (lastOf is i))]) (fun i=>[lrc l rec .ready none,dfr Dm,pt bad [.bool false] TyO,pt p8 [o] TyV,own TyB o (By (sumI ls is z i))]) (fun i=>i ≤ is.length) (fun i=>is.length - i) 0 [0,1,2,3,8,9] (by omega) ?_
 intro i hi
 by_cases hlt:i < is.length
 ·have hx:=hr.lt _ (mem_getD.2 ⟨i,hlt,rfl⟩)
  have hu:=hr.up i hlt
  have hn:lastOf is (i + 1) = is.getD i 0:=rfl
  have hsm:sumI ls is z (i + 1) = xorL (sumI ls is z i) (ls.getD (is.getD i 0).toNat []):=rfl
  have hl1:=hlen i hi
  generalize hs1:sumI ls is z (i + 1) = S1 at *
  generalize sumI ls is z i = S0 at *
  generalize hxe:is.getD i 0 = x at *
  generalize hle:lastOf is i = la at *
  have hxl:x.toNat < ls.length:=by omega
  have hm:=hls _ (getD_memL hxl)
  repeat' first|refine lie hxe ?_|(refine wo ?_;first|(refine ao ?_;first|refine oa ?_)|refine oa ?_|refine ld ?_|refine ldl ?_|refine ixmn ?_|refine lv ?_|refine ln ?_|refine ix ?_|refine sr ?_|refine gy ?_|(refine gsi (fun hB=>?_) (fun hB=>?_) <;> try (exfalso;omega)))|(refine gc ?_;first|(refine ci (fun hB=>?_) (fun hB=>?_) <;> try (exfalso;omega)))|refine sq ?_|refine rg ?_|refine xc ?_|refine nl ?_|refine sk ?_|refine bk ?_
  refine cy (hy S0 (ls.getD x.toNat []) (hs.getD x.toNat nS) hl1 hm) ?_ (hp:=has1 (has_elg (has_velg memA) hxl) has0)
  rintro _ _ ⟨rfl,rfl⟩
  rw [← hsm,show decide ((hs.length:Int) ≤ x) = false from decide_eq_false hB]
  repeat' first|(refine wo ?_;first|(refine ao ?_;first|refine aw ?_)|refine oa ?_|refine gy ?_)|(refine gc ?_;first|refine cf ?_)|refine rg ?_|refine xc ?_|refine nl ?_|refine sk ?_|refine xb ?_
  refine lp (i + 1) (by omega) (hs:=by rw [hn];(repeat (refine Sub.cons rfl (by first | rfl | go_num) ?_));exact Sub.nil) (hf:=by rw [hs1];exact fitA)
 ·obtain rfl:i = is.length:=by omega
  repeat' first|(refine wo ?_;first|(refine ao ?_;first|refine oa ?_))|(refine gc ?_;first|(refine ci (fun hB=>?_) (fun hB=>?_) <;> try (exfalso;omega)))|refine sq ?_|refine rg ?_|refine xc ?_|refine nl ?_|refine xe ?_
  exact e0 rfl
def sumL (ls:List (List Int)) (is:List Int):List Int:=sumI ls is (List.replicate (ls.getD 0 []).length 0) is.length
theorem Sum_tr (s sv:Value) (hs:List Value) (ls:List (List Int)) (is:List Int) (hE:blkE ls = 0) (hr:Rise is ls.length) (hne:0 < is.length):Tr Tryz.prog 57 [s,sv] [vw s hs,velg y8 hs ls,vw sv (Is is)] []
  fun v D=>∃ o,v = tup2 o (I 0)∧o.oneCell' = true∧D = [own TyB o (By (sumL ls is))]:=by
 obtain ⟨hk,hsz,hal⟩:=blkE_zero hE
 have hN:∀ b,s.oneCell' = true→sv.oneCell' = true→Tr Tryz.prog 95 [s,sv,ptr b] [] [] fun v D=>∃ c1 c2 c3,v = .func (.func 132) #[] #[ptr c1,ptr c2,ptr c3]∧D = [pt c1 [sv] 22,pt c2 [s] 63,pt c3 [ptr b] 143]:=fun b h1 h2=>by
  refine Tr.enter env _ Tryz.func95 (by kernel_rfl) rfl Tryz.ntmps95 rfl (by repeat (first | exact has00 | refine has01 ?_)) fun w0=>?_
  repeat' first|refine bx1 fun c=>?_|(refine wo ?_;first|refine oa ?_)|refine sq ?_|refine rg ?_|refine xc ?_|refine nl ?_|refine rt ?_
  rename_i c2 c1
  exact r1 ⟨c1,c2,c,rfl,rfl⟩
 refine Tr.enterM env _ Tryz.func57 (by kernel_rfl) rfl Tryz.ntmps57 rfl (by (repeat (first | exact has00 | refine has01 ?_));first | done | fail) fun w0=>?_
 refine TC.leni (v:=sv) (l:=is) fun hil=>?_
 refine TC.elg (g:=y8) (hs:=hs) (ls:=ls) (fun hl=>?_)
 refine TC.fact (vw_len (v:=s) (xs:=hs) hasA) fun hsl=>?_
 refine TC.one (v:=s) (xs:=hs) fun h1s=>?_
 refine TC.one (v:=sv) (xs:=Is is) fun h1v=>?_
 repeat' first|(refine gca ?_;first|(refine ca (BCheck_tr s hs ls) ?_;rintro _ _ ⟨rfl,rfl⟩;rw [hE]))|refine al fun p=>?_|(refine wo ?_;first|(refine ao ?_;first|refine oa ?_)|refine oa ?_|refine lnm ?_|refine lv ?_|refine ix ?_|refine sr ?_)|(refine gc ?_;first|refine cf ?_)|refine sq ?_|refine rg ?_|refine xc ?_|refine nl ?_|refine sk ?_
 rw [show Int.toNat 0 = 0 from rfl,show decide ((is.length:Int) = 0) = false from decide_eq_false (by omega)]
 refine mkb fun o=>?_
 rw [show ((ls.getD 0 []).length:Int).toNat = (ls.getD 0 []).length from rfl]
 refine TO.one (v:=o) (xs:=By (List.replicate (ls.getD 0 []).length 0)) fun ho=>?_
 repeat' first|(refine gca ?_;first|(refine ca (hN p h1s h1v) ?_;rintro _ _ ⟨c1,c2,c3,rfl,rfl⟩))|refine al fun p8=>?_|(refine wo ?_;first|refine oa ?_|refine sr ?_)|refine sq ?_|refine rg ?_|refine xc ?_|refine nl ?_|refine bk ?_
 refine TC.range [lpt c1 [sv] 22,lpt c2 [s] 63,lpt c3 [ptr p] 143,vw sv (Is is),vw s hs,velg y8 hs ls] [pt p [.bool false] TyO,pt p8 [o] TyV,own TyB o (By (List.replicate (ls.getD 0 []).length 0))]
  (fun l rec Dm pend B'=>pend = none∧B' = [dfr Dm,pt p [.bool false] TyO,pt p8 [o] TyV,own TyB o (By (sumL ls is))]) ?_ ?_
 ·intro rec l Dm hrec
  refine (Named1_tr l Dm p p8 c1 c2 c3 rec sv s o hs ls is (ls.getD 0 []).length (List.replicate (ls.getD 0 []).length 0) hr hal (List.length_replicate ..) ?_).mono ?_
  ·intro acc m h h1 h2
   refine Ty.intro env hrec (by (repeat (first | exact has00 | refine has01 ?_));first | done | fail) fun w1=>?_
   repeat' first|(refine gca ?_;first|(refine ca (Into_tr o h acc m (by omega)) ?_;rintro _ _ ⟨rfl,rfl⟩))|refine xbeg ?_|(refine wo ?_;first|refine oa ?_|refine ld ?_)|refine rg ?_|refine nl ?_|refine bk ?_|refine xb ?_
   exact yn ⟨rfl,rfl⟩
  ·rintro v B rfl
   exact ⟨.ready,none,_,rfl,by decide,rfl,rfl⟩
 ·rintro l rec Dm pend B' ⟨rfl,rfl⟩
  show TX env _ _ _ _ _ _
  repeat' first|(refine wo ?_;first|refine oa ?_|refine ld ?_)|(refine gc ?_;first|refine cf ?_)|refine sq ?_|refine rg ?_|refine xc ?_|refine nl ?_|refine sk ?_|refine rt ?_|refine xb ?_
  exact m2 ⟨o,rfl,ho,rfl⟩
end Go.Art
namespace Go.Art
open Go
def InjL (l:List Int):Prop:=∀ a b,a < l.length→b < l.length→l.getD a 0 = l.getD b 0→a = b
theorem InjL.swp {l:List Int} (h:InjL l) {i j:Nat} (hi:i < l.length) (hj:j < l.length):InjL (swp l i j):=by
 intro a b ha hb he
 rw [swp_length] at ha hb
 rw [swp_get l a hi hj,swp_get l b hi hj] at he
 by_cases a1:a = i
 ·rw [if_pos a1] at he
  by_cases b1:b = i
  ·omega
  ·rw [if_neg b1] at he
   by_cases b2:b = j
   ·rw [if_pos b2] at he;have:=h _ _ hj hi he;omega
   ·rw [if_neg b2] at he;have:=h _ _ hj hb he;omega
 ·rw [if_neg a1] at he
  by_cases a2:a = j
  ·rw [if_pos a2] at he
   by_cases b1:b = i
   ·rw [if_pos b1] at he;have:=h _ _ hi hj he;omega
   ·rw [if_neg b1] at he
    by_cases b2:b = j
    ·omega
    ·rw [if_neg b2] at he;have:=h _ _ hi hb he;omega
  ·rw [if_neg a2] at he
   by_cases b1:b = i
   ·rw [if_pos b1] at he;have:=h _ _ ha hj he;omega
   ·rw [if_neg b1] at he
    by_cases b2:b = j
    ·rw [if_pos b2] at he;have:=h _ _ ha hi he;omega
    ·rw [if_neg b2] at he;exact h _ _ ha hb he
theorem ordL_in (k:Nat):∀ (m i:Nat) (l:List Int) (st:BitVec 64),l.length = k→i + m ≤ k→InjL l →
  (∀ x ∈ (ordL k m i l st).1,∃ j,i ≤ j∧j < k∧l.getD j 0 = x)∧(ordL k m i l st).1.Nodup
 | 0,_,_,_,_,_,_=>⟨fun x hx=>(by unfold ordL at hx;cases hx),(by unfold ordL;exact List.nodup_nil)⟩
 | m + 1,i,l,st,hl,him,hn=>by
  have hs:=sdraw_lt (n:=k - i) (by omega) st
  unfold ordL
  dsimp only
  generalize (sdraw (k - i) st).1 = s at *
  generalize (sdraw (k - i) st).2 = st2 at *
  have hi:i < l.length:=by omega
  have hj:i + s < l.length:=by omega
  obtain ⟨h1,h2⟩:=ordL_in k m (i + 1) (swp l i (i + s)) st2 (by rw [swp_length,hl]) (by omega) (hn.swp hi hj)
  refine ⟨fun x hx=>?_,List.nodup_cons.2 ⟨fun hx=>?_,h2⟩⟩
  ·rcases List.mem_cons.1 hx with rfl | hx
   ·exact ⟨i + s,by omega,by omega,rfl⟩
   ·obtain ⟨j,j1,j2,rfl⟩:=h1 x hx
    rw [swp_get l j hi hj,if_neg (by omega)]
    split
    ·exact ⟨i,by omega,by omega,rfl⟩
    ·exact ⟨j,by omega,j2,rfl⟩
  ·obtain ⟨j,j1,j2,he⟩:=h1 _ hx
   have e2:(swp l i (i + s)).getD i 0 = l.getD (i + s) 0:=by rw [swp_get l i hi hj,if_pos rfl]
   have:=hn.swp hi hj i j (by rw [swp_length];omega) (by rw [swp_length];omega) (by rw [e2,he])
   omega
theorem upto_inj (k:Nat):InjL (upto k):=fun a b ha hb he=>by
 rw [upto_length] at ha hb
 rw [upto_get k a ha,upto_get k b hb] at he
 omega
theorem srt_rise {l:List Int} {k:Int} (hn:l.Nodup) (hk:∀ x ∈ l,0 ≤ x∧x < k):Rise (srt l) k:=by
 have hp:=srt_perm l
 have hs:=srt_sorted l
 have hd:(srt l).Nodup:=hp.nodup_iff.2 hn
 have hm:∀ x ∈ srt l,0 ≤ x∧x < k:=fun x hx=>hk x (hp.mem_iff.1 hx)
 refine ⟨fun i hi=>?_,hm⟩
 unfold lastOf
 split
 ·have:=hm _ (mem_getD.2 ⟨i,hi,rfl⟩);omega
 ·rename_i h0
  have h1:=List.pairwise_iff_getElem.1 hs (i - 1) i (by omega) hi (by omega)
  have h2:=List.pairwise_iff_getElem.1 hd (i - 1) i (by omega) hi (by omega)
  simp only [List.getD_eq_getElem?_getD,List.getElem?_eq_getElem hi,List.getElem?_eq_getElem (show i - 1 < (srt l).length by omega),Option.getD_some]
  omega
theorem pick_rise {k d:Int} (h:Sized k d) (st:BitVec 64):(pickR k d st).2 = 0∧Rise (pickR k d st).1 k∧((pickR k d st).1.length:Int) = d:=by
 obtain ⟨h1,h2,h3,h4⟩:=id h
 unfold pickR ordR
 rw [if_pos h]
 obtain ⟨g1,g2⟩:=ordL_in k.toNat d.toNat 0 (upto k.toNat) st (upto_length _) (by omega) (upto_inj _)
 refine ⟨rfl,srt_rise g2 fun x hx=>?_,?_⟩
 ·obtain ⟨j,j1,j2,rfl⟩:=g1 x hx
  rw [upto_get _ _ j2];omega
 ·dsimp only;rw [srt_length,ordL_len];omega
def tabOk (t:List Int) (k:Int):Prop:=(1 ≤ k∧k ≤ 65536)∧(1 ≤ t.length∧t.length ≤ k)∧(∀ w ∈ t,0 ≤ w∧w ≤ 16777215)∧∃ w ∈ t,0 < w
theorem sum_pos' {t:List Int} (h:∀ w ∈ t,0 ≤ w∧w ≤ 16777215) (hp:∃ w ∈ t,0 < w):0 < t.sum:=by
 induction t with
 | nil=>obtain ⟨w,hw,_⟩:=hp;cases hw
 | cons a r ih=>
  have h1:=h a (by simp)
  have h2:=sum_bound (t:=r) fun w hw=>h w (by simp [hw])
  rw [List.sum_cons]
  obtain ⟨w,hw,hw0⟩:=hp
  rcases List.mem_cons.1 hw with rfl | hw
  ·omega
  ·have:=ih (fun w hw=>h w (by simp [hw])) ⟨w,hw,hw0⟩;omega
def numOk (n:Int):Prop:=0 ≤ n∧n ≤ 4294967295
instance (n:Int):Decidable (numOk n):=by unfold numOk;infer_instance
def setT (t:List Int) (k seed block id:Int):List Int:=(setR t.sum (alF t).cut (alF t).oth k (seedOf (c64 seed) (c64 block) (c64 id))).1
theorem setR_ok {t:List Int} {k:Int} (h:solE t k = 0) (st:BitVec 64):(setR t.sum (alF t).cut (alF t).oth k st).2 = 0∧Rise (setR t.sum (alF t).cut (alF t).oth k st).1 k ∧
  (1 ≤ (setR t.sum (alF t).cut (alF t).oth k st).1.length∧(setR t.sum (alF t).cut (alF t).oth k st).1.length ≤ t.length)∧0 < t.getD ((setR t.sum (alF t).cut (alF t).oth k st).1.length - 1) 0:=by
 obtain ⟨h1,h2,h3,h4⟩:=solE_zero h
 have hs:=sum_pos' h3 h4
 obtain ⟨g1,g2,g3⟩:=alF_ok h3 (by omega) hs
 have hp:=plc_in g1 st
 rw [g2] at hp
 have hpos:0 < t.getD (plcR t.sum (alF t).cut (alF t).oth st).1.toNat 0:=by
  have l1:=sdraw_lt (n:=t.length) (by omega) st
  have l2:=sdraw_lt (n:=t.sum.toNat) (by omega) (sdraw t.length st).2
  unfold plcR
  rw [g2]
  dsimp only
  exact g3 _ _ (by omega) (by omega)
 unfold setR
 obtain ⟨q1,q2,q3⟩:=pick_rise (k:=k) (d:=(plcR t.sum (alF t).cut (alF t).oth st).1 + 1) (by unfold Sized;omega) (plcR t.sum (alF t).cut (alF t).oth st).2
 generalize pickR k ((plcR t.sum (alF t).cut (alF t).oth st).1 + 1) (plcR t.sum (alF t).cut (alF t).oth st).2 = R at *
 refine ⟨q1,q2,by omega,?_⟩
 rw [show R.1.length - 1 = (plcR t.sum (alF t).cut (alF t).oth st).1.toNat by omega]
 exact hpos
open Go Go.Proofs Go.RowKit
structure Cel (ps:List (Nat × Value)) (qs:List (Nat × List Value)):Prop where
 eq:ps.map (fun p=>(p.1,p.2.cells.toList)) = qs
theorem Cel.nil:Cel [] []:=⟨rfl⟩
theorem Cel.one {i:Nat} {v:Value} {ps:List (Nat × Value)} {qs:List (Nat × List Value)} (h:v.oneCell' = true) (k:Cel ps qs):Cel ((i,v) :: ps) ((i,[v]) :: qs):=⟨by
 rw [List.map_cons,k.eq,oneCell_cells h]⟩
theorem Cel.agg {i:Nat} {cs:List Value} {ps:List (Nat × Value)} {qs:List (Nat × List Value)} (k:Cel ps qs):Cel ((i,.agg cs.toArray) :: ps) ((i,cs) :: qs):=⟨by
 rw [List.map_cons,k.eq]
 rfl⟩
def setPartsC (pl:List (Nat × Nat)):List Value→List (Nat × List Value)→Option (List Value)
 | cs,[]=>some cs
 | cs,(i,us) :: r=>match pl[i]? with
  | some (off,sz)=>bif Nat.beq us.length sz && Nat.ble (off + sz) cs.length then setPartsC pl (cs.take off ++ us ++ cs.drop (off + sz)) r else none
  | none=>none
theorem setParts_C {pl:List (Nat × Nat)}:∀ {ps:List (Nat × Value)} {qs:List (Nat × List Value)} {cs cs':List Value},Cel ps qs→setPartsC pl cs qs = some cs'→setParts pl cs ps = some cs'
 | [],qs,cs,cs',h,k=>by
  obtain ⟨h⟩:=h
  subst h
  exact k
 | (i,v) :: ps,qs,cs,cs',h,k=>by
  obtain ⟨h⟩:=h
  subst h
  simp only [List.map_cons,setPartsC] at k
  simp only [setParts]
  cases hp:pl[i]? with
  | none=>rw [hp] at k;cases k
  | some q=>
   obtain ⟨off,sz⟩:=q
   rw [hp] at k
   simp only [Array.length_toList] at k ⊢
   cases hc:Nat.beq v.cells.size sz && Nat.ble (off + sz) cs.length with
   | false=>rw [hc] at k;cases k
   | true=>rw [hc] at k;exact setParts_C ⟨rfl⟩ k
section
variable {P:Program} {E:Env P} {n:Sh} {X:Cx} {s:List K} {fr:Fr} {A A':List Ch} {ops:Array Oper} {rest:List Oper} {d:Nat} {ty t:TypeId} {pos:String} {after:Array Edge}
theorem bdg {sz by_:Nat} {cs:List Value} {fl:List Field} {zs:List Value} {pl:List (Nat × Nat)} {parts:List (Nat × Operand)} {ps:List (Nat × Value)} (k:TO E n X s ops rest ((d,.agg cs.toArray) :: fr) A) (hv:evps fr parts = some ps:=by rfl)
  (ht:lk E.und t = some (.struct fl.toArray):=by rfl) (he:lk E.inf t = some (.agg zs.toArray,sz,by_):=by rfl) (hpl:places E.inf fl = some pl:=by rfl) (hs:setParts pl zs ps = some cs:=by rfl) (hd:Nat.blt d n.n = true:=by rfl) :
  TO E n X s ops (⟨some d,.build t parts.toArray,ty,pos,after,none⟩ :: rest) fr A:=TO.val (fun _ _=>R_build ht he hpl hv hs) k hd
theorem bdm {sz by_:Nat} {cs:List Value} {fl:List Field} {zs:List Value} {pl:List (Nat × Nat)} {parts:List (Nat × Operand)} {ps:List (Nat × Value)} {qs:List (Nat × List Value)} (k:TO E n X s ops rest ((d,.agg cs.toArray) :: fr) A) (hv:evps fr parts = some ps:=by rfl)
  (ht:lk E.und t = some (.struct fl.toArray):=by rfl) (he:lk E.inf t = some (.agg zs.toArray,sz,by_):=by rfl) (hpl:places E.inf fl = some pl:=by rfl) (hq:Cel ps qs:=by (repeat (first | exact Cel.nil | apply Cel.agg | (apply Cel.one;focus (first | rfl | assumption))));first | done | fail) (hs:setPartsC pl zs qs = some cs:=by rfl) (hd:Nat.blt d n.n = true:=by rfl) :
  TO E n X s ops (⟨some d,.build t parts.toArray,ty,pos,after,none⟩ :: rest) fr A:=bdg k hv ht he hpl (setParts_C hq hs) hd
theorem ldla {b j sz by_:Nat} {cs vs:List Value} {T:TypeId} {dt:TypeDesc} {z:Value} {x:Operand} (k:TO E n X s ops rest ((d,.agg vs.toArray) :: fr) A) (hx:ev fr x = some (.pointer (some ⟨b,j,none⟩)):=by rfl) (hm:lpt b cs T ∈ A:=by exact memA) (ht:lk E.und t = some dt:=by rfl) (hg:aggB dt = true:=by rfl) (hi:lk E.inf t = some (z,sz,by_):=by rfl)
  (hv:(cs.drop j).take sz = vs:=by rfl) (hl:vs.length = sz:=by rfl) (hd:Nat.blt d n.n = true:=by rfl):TO E n X s ops (⟨some d,.load t x,ty,pos,after,none⟩ :: rest) fr A:=TO.val (fun _ h=>R_loadA ht hg hi hx (h.h (lpt b cs T) hm) hv hl) k hd
end
end Go.Art
namespace Go.Art
open Go Go.Proofs Go.RowKit
attribute [local irreducible] Fit pt own ro vw mpc lpt vels rels mow lrc dfr
attribute [local irreducible] lmp lme mit velg relg
abbrev TEnc:TypeId:=105
abbrev TSam:TypeId:=101
abbrev nP:Value:=.pointer none
theorem number_tr (n:Int):Tr Tryz.prog 91 [I n] [] [] fun v D=>v = .bool (decide (numOk n))∧D = []:=by
 refine Tr.enter env _ Tryz.func91 (by kernel_rfl) rfl Tryz.ntmps91 rfl (by repeat (first | exact has00 | refine has01 ?_)) fun w0=>?_
 repeat' first|(refine wo ?_;first|(refine ao ?_;first|refine oa ?_)|refine oa ?_|refine gy ?_|refine gn ?_|(refine gsi (fun hB=>?_) (fun hB=>?_) <;> try (exfalso;omega)))|refine sq ?_|refine rg ?_|refine xc ?_|refine nl ?_|refine rt ?_
 all_goals refine r1 ⟨?_,rfl⟩
 all_goals first
  | rw [decide_eq_false (fun h:numOk n=>by unfold numOk at h;omega)]
  | (congr 1;exact decide_eq_decide.2 ⟨fun h=>by unfold numOk;omega,fun h=>by unfold numOk at h;omega⟩)
def setW (t:List Int) (k seed blk id:Int):List Int × Int:=if numOk id then (setT t k seed blk id,0) else ([],3)
theorem sset_tr (t:List Int) (k seed blk id:Int) (cv ov:Value) (hE:solE t k = 0) (hc:cv.oneCell' = true) (ho:ov.oneCell' = true) :
  Tr Tryz.prog 94 [.agg #[I t.sum,cv,ov,I k,I seed,I blk],I id] [vw cv (Is (alF t).cut),vw ov (Is (alF t).oth)] []
   fun v D=>∃ o,v = tup2 o (I (setW t k seed blk id).2)∧D = [own 3 o (Is (setW t k seed blk id).1)]:=by
 obtain ⟨h1,h2,h3,h4⟩:=solE_zero hE
 obtain ⟨g1,g2,g3⟩:=alF_ok h3 (by omega) (sum_pos' h3 h4)
 refine Tr.enter env _ Tryz.func94 (by kernel_rfl) rfl Tryz.ntmps94 rfl (by repeat (first | exact has00 | refine has01 ?_)) fun w0=>?_
 repeat' first|(refine gca ?_;first|(refine ca (number_tr id) ?_;rintro _ _ ⟨rfl,rfl⟩))|refine bx fun b=>?_|(refine wo ?_;first|refine oa ?_)|(refine gc ?_;first|(refine cn (fun hB=>?_) (fun hB=>?_) <;> try (exfalso;omega)))|refine sq ?_|refine rg ?_|refine xc ?_|refine nl ?_|refine sk ?_|refine rt ?_
 ·refine TX.im (own_nil 3 _) ?_
  rw [show setW t k seed blk id = ([],3) from if_neg (by assumption)]
  exact r2 ⟨nS,rfl,rfl⟩
 have hn:numOk id:=by assumption
 have hz:=(setR_ok hE (seedOf (c64 seed) (c64 blk) (c64 id))).1
 refine rs (fun w=>w.heap[b]? = some (.cells #[I t.sum,cv,ov,I k,I seed,I blk] TSam (0,0))) ?_ (fun w hw=>pt_at memA hw)
 refine tka 0 ?_
 refine tk 1 (v:=.agg #[I t.sum,cv,ov]) (hi:=rfl) (fun w h=>by exact R_loadA (E:=env) (cs:=[I t.sum,cv,ov,I k,I seed,I blk]) (vs:=[I t.sum,cv,ov]) rfl rfl rfl rfl h rfl rfl) ?_
 refine tka 2 ?_
 refine tkl 3 (cs:=[I t.sum,cv,ov,I k,I seed,I blk]) (fun w h=>h) ?_
 refine tka 4 ?_
 refine tkl 5 (cs:=[I t.sum,cv,ov,I k,I seed,I blk]) (fun w h=>h) ?_
 refine tk 6 (v:=U (c64 seed)) (hi:=rfl) (fun w h=>by exact R_toU (E:=env) rfl rfl rfl) ?_
 refine tka 7 ?_
 refine tkl 8 (cs:=[I t.sum,cv,ov,I k,I seed,I blk]) (fun w h=>h) ?_
 refine tk 9 (v:=U (c64 blk)) (hi:=rfl) (fun w h=>by exact R_toU (E:=env) rfl rfl rfl) ?_
 refine tka 10 ?_
 refine tk 11 (v:=U (c64 id)) (hi:=rfl) (fun w h=>by exact R_toU (E:=env) rfl rfl rfl) ?_
 refine t1 12 ?_
 refine ca (Seeded_tr _ _ _) ?_
 rintro _ _ ⟨lb,lr,rfl,rfl⟩
 repeat' first|refine nl ?_
 refine te (fun w hw=>pt_at memA hw) ?_
 refine t1 13 ?_
 refine ca (RwSet_tr t.sum k cv ov (alF t).cut (alF t).oth lb lr _ hc ho g1 (by omega)) ?_
 rintro _ _ ⟨o,st',u,rfl,rfl⟩
 repeat' first|refine nl ?_
 refine te (fun w hw=>pt_at memA hw) ?_
 refine tka 14 ?_
 refine tka 15 ?_
 refine tka 16 ?_
 refine tka 17 ?_
 refine t0 ?_
 rw [hz]
 repeat' first|refine xc ?_|refine rt ?_
 rw [show setW t k seed blk id = (setT t k seed blk id,0) from if_pos hn]
 exact r2 ⟨o,rfl,rfl⟩
def smpE (t:List Int) (k blk:Int):Int:=if solE t k = 0 then (if numOk blk then 0 else 3) else 13
theorem smpE_zero {t:List Int} {k blk:Int} (h:smpE t k blk = 0):solE t k = 0∧numOk blk:=by
 unfold smpE at h
 split at h
 ·split at h
  ·exact ⟨by assumption,by assumption⟩
  ·cases h
 ·cases h
theorem sampled_tr (s:Value) (t:List Int) (k seed blk:Int):Tr Tryz.prog 54 [s,I k,I seed,I blk] [vw s (Is t)] []
  fun v D=>(smpE t k blk = 0∧∃ cv ov,v = tup2 (.agg #[I t.sum,cv,ov,I k,I seed,I blk]) (I 0)∧D = [own 3 cv (Is (alF t).cut),own 3 ov (Is (alF t).oth)]∧cv.oneCell' = true∧ov.oneCell' = true) ∨
   (smpE t k blk ≠ 0∧v = tup2 (.agg #[I 0,nS,nS,I 0,I 0,I 0]) (I (smpE t k blk))∧D = []):=by
 refine Tr.enter env _ Tryz.func54 (by kernel_rfl) rfl Tryz.ntmps54 rfl (by repeat (first | exact has00 | refine has01 ?_)) fun w0=>?_
 rcases solE_cases t k with hE | hE
 ·obtain ⟨h1,h2,h3,h4⟩:=solE_zero hE
  repeat' first|(refine gca ?_;first|(refine ca (SoCheck_tr s t k) ?_;rintro _ _ ⟨rfl,rfl⟩;rw [hE])|(refine ca (number_tr blk) ?_;rintro _ _ ⟨rfl,rfl⟩)|(refine ca (Make_tr s t (by omega) h3 (sum_pos' h3 h4)) ?_;rintro _ _ ⟨cv,ov,rfl,rfl,hc,ho⟩))|refine al fun b=>?_|refine bdz ?_|refine srz ?_|refine lda ?_|(refine wo ?_;first|(refine ao ?_;first|refine oa ?_)|refine oa ?_)|(refine gc ?_;first|refine cf ?_|(refine cn (fun hB=>?_) (fun hB=>?_) <;> try (exfalso;omega)))|refine sq ?_|refine rg ?_|refine xc ?_|refine nl ?_|refine sk ?_|refine rt ?_
  ·have e:smpE t k blk = 3:=by rw [smpE,if_pos hE,if_neg (by assumption)]
   rw [e]
   exact rca (.inr ⟨by decide,rfl,rfl⟩)
  ·have e:smpE t k blk = 0:=by rw [smpE,if_pos hE,if_pos (by assumption)]
   rw [e]
   exact rca (.inl ⟨rfl,cv,ov,rfl,rfl,hc,ho⟩)
 ·have e:smpE t k blk = 13:=by rw [smpE,if_neg (by omega)]
  rw [e]
  repeat' first|(refine gca ?_;first|(refine ca (SoCheck_tr s t k) ?_;rintro _ _ ⟨rfl,rfl⟩;rw [hE]))|refine al fun b=>?_|refine bdz ?_|refine srz ?_|(refine wo ?_;first|(refine ao ?_;first|refine oa ?_)|refine oa ?_)|(refine gc ?_;first|refine ct ?_)|refine sq ?_|refine rg ?_|refine xc ?_|refine nl ?_|refine rt ?_
  exact rca (.inr ⟨by decide,rfl,rfl⟩)
def setofR (t:List Int) (k seed blk id:Int):List Int × Int:=if smpE t k blk = 0 then setW t k seed blk id else ([],smpE t k blk)
theorem snoc_own {g:Int→Value} {e:TypeId} {hs:List Value} {ls:List (List Int)} {v:Value} {l:List Int} {A F:List Ch} (hl:hs.length = ls.length) (hf:Fit A [relg g hs ls,own e v (l.map g)] F):Im A (relg g (hs ++ [v]) (ls ++ [l]) :: F):=
by
 unfold Fit at hf
 exact Im.trans hf (Im.trans (Im.cons _ ((im_freeze e v (l.map g)).im F)) (relg_snoc hl v l F))
def newE (t:List Int) (blk:Int) (ls:List (List Int)):Int:=if blkE ls = 0 then smpE t ls.length blk else blkE ls
abbrev encP (b:Nat) (cv ov sy:Value) (hs:List Value) (t:List Int) (seed blk:Int) (ls:List (List Int)):List Ch:=
 [pt b [I t.sum,cv,ov,I ls.length,I seed,I blk,sy] TEnc,own 3 cv (Is (alF t).cut),own 3 ov (Is (alF t).oth),own TyV sy hs,relg y8 hs ls]
structure NwG where
 i:Nat
 sy:Value
 hs:List Value
theorem New_tr (s sv:Value) (hs:List Value) (ls:List (List Int)) (t:List Int) (seed blk:Int):Tr Tryz.prog 24 [s,sv,I seed,I blk] [vw s hs,velg y8 hs ls,vw sv (Is t)] []
  fun v D=>(newE t blk ls = 0∧∃ b cv ov sy hs',v = tup2 (ptr b) (I 0)∧D = encP b cv ov sy hs' t seed blk ls∧cv.oneCell' = true∧ov.oneCell' = true∧sy.oneCell' = true)∨(newE t blk ls ≠ 0∧v = tup2 nP (I (newE t blk ls))∧D = []):=by
 have hS:=sampled_tr sv t ls.length seed blk
 refine Tr.enter env _ Tryz.func24 (by kernel_rfl) rfl Tryz.ntmps24 rfl (by repeat (first | exact has00 | refine has01 ?_)) fun w0=>?_
 refine TC.elg (g:=y8) (hs:=hs) (ls:=ls) (fun hl=>?_)
 refine TC.fact (vw_len (v:=s) (xs:=hs) hasA) fun hsl=>?_
 repeat' first|(refine gca ?_;first|(refine ca (BCheck_tr s hs ls) ?_;rintro _ _ ⟨rfl,rfl⟩))|(refine wo ?_;first|(refine ao ?_;first|refine oa ?_)|refine oa ?_|refine ln ?_)|(refine gc ?_;first|(refine cn (fun hB=>?_) (fun hB=>?_) <;> try (exfalso;omega)))|refine sq ?_|refine rg ?_|refine xc ?_|refine nl ?_|refine sk ?_|refine rt ?_
 ·rw [show newE t blk ls = blkE ls from if_neg (by assumption)]
  exact r2 (.inr ⟨by assumption,rfl,rfl⟩)
 have hb0:blkE ls = 0:=by omega
 rw [show newE t blk ls = smpE t ls.length blk from if_pos hb0]
 obtain ⟨hk,hsz,hal⟩:=blkE_zero hb0
 rw [hl]
 repeat' first|(refine gca ?_;first|(refine ca hS ?_;rintro _ _ (⟨he,cv,ov,rfl,rfl,hc,ho⟩ | ⟨he,rfl,rfl⟩)))|refine al fun b=>?_|refine srz ?_|(refine wo ?_;first|(refine ao ?_;first|refine oa ?_)|refine oa ?_)|(refine gc ?_;first|refine cf ?_|(refine cn (fun hB=>?_) (fun hB=>?_) <;> try (exfalso;omega)))|refine sq ?_|refine rg ?_|refine xc ?_|refine nl ?_|refine sk ?_|refine rt ?_
 ·repeat' first|refine lda ?_|refine bdg ?_|refine bx fun xp=>?_|(refine wo ?_;first|refine oa ?_|refine ln ?_)|refine sq ?_|refine rg ?_|refine xc ?_|refine nl ?_|refine bk ?_
  have ht0:ls.take 0 = []:=rfl
  refine TC.im (relg_nil (g:=y8) _) ?_
  refine TC.im (own_nil TyV _) ?_
  refine TC.loop (ι:=NwG) (fun g=>[(38,I g.i)]) (fun g=>[pt xp [I t.sum,cv,ov,I ls.length,I seed,I blk,g.sy] TEnc,own TyV g.sy g.hs,relg y8 g.hs (ls.take g.i)]) (fun g=>g.i ≤ ls.length∧g.sy.oneCell' = true∧g.hs.length = g.i) (fun g=>ls.length - g.i) ⟨0,nS,[]⟩ [36,37,13] ⟨by simp,rfl,rfl⟩ ?_ (hf:=by dsimp only;exact fitA)
  rintro ⟨i,sy,hs2⟩ ⟨g1,g2,g3⟩
  dsimp only at g1 g2 g3 ⊢
  by_cases hi:i < ls.length
  ·repeat' first|refine rs (id:=11) (fun _=>True) ?_ (fun _ _=>trivial)|(refine wo ?_;first|(refine ao ?_;first|refine oa ?_)|refine oa ?_|refine lv ?_|refine ixn ?_)|(refine gc ?_;first|(refine ci (fun hB=>?_) (fun hB=>?_) <;> try (exfalso;omega)))|refine sq ?_|refine rg ?_|refine xc ?_|refine nl ?_|refine sk ?_|refine bk ?_
   refine tka 0 ?_
   refine tka 1 ?_
   refine tka 2 ?_
   refine tka 3 ?_
   refine tka 5 ?_
   refine t2 4 6 ?_ ?_
   ·refine ld ?_
    refine nl ?_
    refine te (fun _ _=>trivial) ?_
    refine t1 6 ?_
    refine ca (Clone_tr _ (ls.getD i []) (by have:=hal _ (getD_memL hi);omega)) ?_ (hp:=has1 (has_elg (has_velg memA) hi) has0)
    rintro c _ ⟨hc1,rfl⟩
    refine nl ?_
    refine te (fun _ _=>trivial) ?_
    refine t1 7 ?_
    refine sli (vs:=[c]) (fun v1=>?_) (h1:=one_cons hc1 one_nil)
    refine nl ?_
    refine te (fun _ _=>trivial) ?_
    refine t1 8 ?_
    refine ap (xs:=hs2) (news:=[c]) (fun sy2=>?_) (h1:=one_cons hc1 one_nil)
    refine TO.one (v:=sy2) (xs:=hs2 ++ [c]) fun hsy=>?_
    refine nl ?_
    refine te (fun _ _=>trivial) ?_
    refine tka 9 ?_
    refine tka 10 ?_
    refine t1 11 ?_
    refine sr ?_
    refine nl ?_
    refine te (fun _ _=>trivial) ?_
    refine t0 ?_
    refine TX.im (snoc_own (g:=y8) (e:=TyB) (hs:=hs2) (ls:=ls.take i) (v:=c) (l:=ls.getD i []) (by rw [g3,List.length_take];omega) fitA) ?_
    rw [← take_succ' hi []]
    repeat' first|(refine wo ?_;first|(refine ao ?_;first|refine aw ?_)|refine oa ?_)|refine rg ?_|refine xc ?_|refine nl ?_|refine xb ?_
    exact lp ⟨i + 1,sy2,hs2 ++ [c]⟩ ⟨by dsimp only;omega,hsy,by simp [g3]⟩
   ·refine ca (Clone_tr _ (ls.getD i []) (by have:=hal _ (getD_memL hi);omega)) ?_ (hp:=has1 (has_elg (has_velg memA) hi) has0)
    rintro c _ ⟨hc1,rfl⟩
    refine nl ?_
    refine te (fun _ _=>trivial) ?_
    refine t2 4 7 ?_ ?_
    ·refine ld ?_
     refine nl ?_
     refine te (fun _ _=>trivial) ?_
     refine t1 7 ?_
     refine sli (vs:=[c]) (fun v1=>?_) (h1:=one_cons hc1 one_nil)
     refine nl ?_
     refine te (fun _ _=>trivial) ?_
     refine t1 8 ?_
     refine ap (xs:=hs2) (news:=[c]) (fun sy2=>?_) (h1:=one_cons hc1 one_nil)
     refine TO.one (v:=sy2) (xs:=hs2 ++ [c]) fun hsy=>?_
     refine nl ?_
     refine te (fun _ _=>trivial) ?_
     refine tka 9 ?_
     refine tka 10 ?_
     refine t1 11 ?_
     refine sr ?_
     refine nl ?_
     refine te (fun _ _=>trivial) ?_
     refine t0 ?_
     refine TX.im (snoc_own (g:=y8) (e:=TyB) (hs:=hs2) (ls:=ls.take i) (v:=c) (l:=ls.getD i []) (by rw [g3,List.length_take];omega) fitA) ?_
     rw [← take_succ' hi []]
     repeat' first|(refine wo ?_;first|(refine ao ?_;first|refine aw ?_)|refine oa ?_)|refine rg ?_|refine xc ?_|refine nl ?_|refine xb ?_
     exact lp ⟨i + 1,sy2,hs2 ++ [c]⟩ ⟨by dsimp only;omega,hsy,by simp [g3]⟩
    ·refine sli (vs:=[c]) (fun v1=>?_) (h1:=one_cons hc1 one_nil)
     refine nl ?_
     refine te (fun _ _=>trivial) ?_
     refine t1 4 ?_
     refine ld ?_
     refine nl ?_
     refine te (fun _ _=>trivial) ?_
     refine t1 8 ?_
     refine ap (xs:=hs2) (news:=[c]) (fun sy2=>?_) (h1:=one_cons hc1 one_nil)
     refine TO.one (v:=sy2) (xs:=hs2 ++ [c]) fun hsy=>?_
     refine nl ?_
     refine te (fun _ _=>trivial) ?_
     refine tka 9 ?_
     refine tka 10 ?_
     refine t1 11 ?_
     refine sr ?_
     refine nl ?_
     refine te (fun _ _=>trivial) ?_
     refine t0 ?_
     refine TX.im (snoc_own (g:=y8) (e:=TyB) (hs:=hs2) (ls:=ls.take i) (v:=c) (l:=ls.getD i []) (by rw [g3,List.length_take];omega) fitA) ?_
     rw [← take_succ' hi []]
     repeat' first|(refine wo ?_;first|(refine ao ?_;first|refine aw ?_)|refine oa ?_)|refine rg ?_|refine xc ?_|refine nl ?_|refine xb ?_
     exact lp ⟨i + 1,sy2,hs2 ++ [c]⟩ ⟨by dsimp only;omega,hsy,by simp [g3]⟩
  ·obtain rfl:i = ls.length:=by omega
   rw [List.take_length]
   repeat' first|(refine wo ?_;first|(refine ao ?_;first|refine oa ?_)|refine oa ?_)|(refine gc ?_;first|(refine ci (fun hB=>?_) (fun hB=>?_) <;> try (exfalso;omega)))|refine sq ?_|refine rg ?_|refine xc ?_|refine nl ?_|refine xe ?_|refine rt ?_
   exact r2 (.inl ⟨he,xp,cv,ov,sy,hs2,rfl,rfl,hc,ho,g2⟩)
 ·repeat' first|(refine wo ?_;first|(refine ao ?_;first|refine aw ?_|refine aw6 ?_|refine oa ?_|refine adiv ?_|refine amod ?_|refine shr1 ?_|refine shr ?_|refine umod ?_|refine isl ?_|refine ipe ?_|refine ipn ?_|refine ibe ?_)|refine acw ?_|refine ucv ?_|refine anw ?_|refine oa ?_|refine ld ?_|refine ldl ?_|refine lnm ?_|refine ixmn ?_|refine ixm ?_|refine li ?_|refine lb ?_|refine lv ?_|refine ln ?_|refine ixn ?_|refine ix ?_|refine le ?_|refine sr ?_|refine soi ?_|refine sob ?_|refine scm ?_|refine sclm ?_|refine schm ?_|refine gy ?_|refine gn ?_|refine gnn ?_|refine gu ?_|(refine gsi (fun hB=>?_) (fun hB=>?_) <;> try (exfalso;omega))|(refine gsn (fun hB=>?_) (fun hB=>?_) <;> try (exfalso;omega))|(refine gs (fun hB=>?_) (fun hB=>?_) <;> try (exfalso;omega)))|(refine gc ?_;first|refine ct ?_|refine cf ?_|(refine ci (fun hB=>?_) (fun hB=>?_) <;> try (exfalso;omega))|(refine cn (fun hB=>?_) (fun hB=>?_) <;> try (exfalso;omega))|(refine cb (fun hB=>?_) (fun hB=>?_) <;> try (exfalso;omega)))|refine sq ?_|refine rg ?_|refine xc ?_|refine nl ?_|refine sk ?_|refine bk ?_|refine xe ?_|refine rt ?_|refine xb ?_
  exact r2 (.inr ⟨by assumption,rfl,rfl⟩)
abbrev encL (b:Nat) (cv ov sy:Value) (hs:List Value) (t:List Int) (seed blk:Int) (ls:List (List Int)):List Ch:=
 [lpt b [I t.sum,cv,ov,I ls.length,I seed,I blk,sy] TEnc,vw cv (Is (alF t).cut),vw ov (Is (alF t).oth),vw sy hs,velg y8 hs ls]
theorem Enone_tr (b:Nat) (x0 x1 x2 x3 x4 x5 sy:Value) (hs:List Value):Tr Tryz.prog 93 [ptr b] [lpt b [x0,x1,x2,x3,x4,x5,sy] TEnc,vw sy hs] [] fun v D=>v = .bool (decide ((hs.length:Int) = 0))∧D = []:=by
 refine Tr.enter env _ Tryz.func93 (by kernel_rfl) rfl Tryz.ntmps93 rfl (by repeat (first | exact has00 | refine has01 ?_)) fun w0=>?_
 repeat' first|(refine wo ?_;first|(refine ao ?_;first|refine oa ?_|refine ipe ?_)|refine oa ?_|refine ldl ?_|refine ln ?_|refine gy ?_)|refine sq ?_|refine rg ?_|refine xc ?_|refine nl ?_|refine rt ?_
 exact r1 ⟨rfl,rfl⟩
theorem ESet_tr (b:Nat) (cv ov sy:Value) (hs:List Value) (t:List Int) (seed blk:Int) (ls:List (List Int)) (id:Int) (hE:newE t blk ls = 0) (hc:cv.oneCell' = true) (ho:ov.oneCell' = true) :
  Tr Tryz.prog 56 [ptr b,I id] (encL b cv ov sy hs t seed blk ls) [] fun v D=>∃ o,v = tup2 o (I (setW t ls.length seed blk id).2)∧D = [own 3 o (Is (setW t ls.length seed blk id).1)]:=by
 have hb0:blkE ls = 0:=by unfold newE at hE;split at hE <;> omega
 have hs0:solE t ls.length = 0:=by rw [newE,if_pos hb0] at hE;exact (smpE_zero hE).1
 obtain ⟨hk,hsz,hal⟩:=blkE_zero hb0
 refine Tr.enter env _ Tryz.func56 (by kernel_rfl) rfl Tryz.ntmps56 rfl (by repeat (first | exact has00 | refine has01 ?_)) fun w0=>?_
 refine TC.elg (g:=y8) (hs:=hs) (ls:=ls) (fun hl=>?_)
 repeat' first|(refine gca ?_;first|(refine ca (Enone_tr b _ _ _ _ _ _ sy hs) ?_;rintro _ _ ⟨rfl,rfl⟩;rw [decide_eq_false (show ¬ (hs.length:Int) = 0 by omega)])|(refine ca (sset_tr t ls.length seed blk id cv ov hs0 hc ho) ?_;rintro _ _ ⟨o,rfl,rfl⟩))|refine ldla ?_|(refine wo ?_;first|refine oa ?_)|(refine gc ?_;first|refine cf ?_)|refine sq ?_|refine rg ?_|refine xc ?_|refine nl ?_|refine sk ?_|refine rt ?_
 exact r2 ⟨o,rfl,rfl⟩
abbrev NoEnc (p:Value) (pre:List Ch):Prop:=Tr Tryz.prog 93 [p] pre [] fun v D=>v = .bool true∧D = []
theorem newE_zero {t:List Int} {blk:Int} {ls:List (List Int)} (hE:newE t blk ls = 0):blkE ls = 0∧solE t ls.length = 0∧numOk blk:=by
 have hb0:blkE ls = 0:=by unfold newE at hE;split at hE <;> omega
 rw [newE,if_pos hb0] at hE
 exact ⟨hb0,smpE_zero hE⟩
def pktW (t:List Int) (ls:List (List Int)) (seed blk id:Int):List Int × Int:=if numOk id then (sumL ls (setT t ls.length seed blk id),0) else ([],3)
theorem EPacket_tr (b:Nat) (cv ov sy:Value) (hs:List Value) (t:List Int) (seed blk:Int) (ls:List (List Int)) (id:Int) (hE:newE t blk ls = 0) (hc:cv.oneCell' = true) (ho:ov.oneCell' = true) :
  Tr Tryz.prog 25 [ptr b,I id] (encL b cv ov sy hs t seed blk ls) [] fun v D=>∃ o,v = tup2 o (I (pktW t ls seed blk id).2)∧o.oneCell' = true∧D = [own TyB o (By (pktW t ls seed blk id).1)]:=by
 obtain ⟨hb0,hs0,hn0⟩:=newE_zero hE
 obtain ⟨hz,hr,hl1,hl2⟩:=setR_ok hs0 (seedOf (c64 seed) (c64 blk) (c64 id))
 change Rise (setT t ls.length seed blk id) ls.length at hr
 change 1 ≤ (setT t ls.length seed blk id).length∧_ at hl1
 have hS:=ESet_tr b cv ov sy hs t seed blk ls id hE hc ho
 by_cases hn:numOk id
 ·rw [show pktW t ls seed blk id = (sumL ls (setT t ls.length seed blk id),0) from if_pos hn]
  rw [show setW t ls.length seed blk id = (setT t ls.length seed blk id,0) from if_pos hn] at hS
  generalize setT t ls.length seed blk id = is at *
  refine Tr.enter env _ Tryz.func25 (by kernel_rfl) rfl Tryz.ntmps25 rfl (by repeat (first | exact has00 | refine has01 ?_)) fun w0=>?_
  repeat' first|(refine gca ?_;first|(refine ca hS ?_;rintro _ _ ⟨o,rfl,rfl⟩)|(refine ca (Sum_tr sy o hs ls is hb0 hr (by omega)) ?_;rintro _ _ ⟨q,rfl,hq,rfl⟩))|(refine wo ?_;first|(refine ao ?_;first|refine oa ?_)|refine oa ?_|refine ldl ?_)|(refine gc ?_;first|refine cf ?_)|refine sq ?_|refine rg ?_|refine xc ?_|refine nl ?_|refine sk ?_|refine rt ?_
  exact r2 ⟨q,rfl,hq,rfl⟩
 ·rw [show pktW t ls seed blk id = ([],3) from if_neg hn]
  rw [show setW t ls.length seed blk id = ([],3) from if_neg hn] at hS
  refine Tr.enter env _ Tryz.func25 (by kernel_rfl) rfl Tryz.ntmps25 rfl (by repeat (first | exact has00 | refine has01 ?_)) fun w0=>?_
  repeat' first|(refine gca ?_;first|(refine ca hS ?_;rintro _ _ ⟨o,rfl,rfl⟩))|(refine wo ?_;first|(refine ao ?_;first|refine oa ?_)|refine oa ?_)|(refine gc ?_;first|refine ct ?_)|refine sq ?_|refine rg ?_|refine xc ?_|refine nl ?_|refine rt ?_
  refine TX.im (own_nil TyB _) ?_
  exact r2 ⟨nS,rfl,rfl,rfl⟩
end Go.Art
namespace Go.Art
open Go Go.Proofs Go.RowKit
def inB (l:List Int):Prop:=∀ x ∈ l,0 ≤ x∧x ≤ 255
theorem inB.nil:inB []:=fun _ h=>nomatch h
theorem inB.cons {x:Int} {l:List Int} (h:0 ≤ x∧x ≤ 255) (k:inB l):inB (x :: l):=fun y hy=>by
 rcases List.mem_cons.1 hy with rfl | hy
 ·exact h
 ·exact k y hy
theorem inB.app {l m:List Int} (h:inB l) (k:inB m):inB (l ++ m):=fun y hy=>by
 rcases List.mem_append.1 hy with hy | hy
 ·exact h y hy
 ·exact k y hy
theorem u8_inj {a b:Int} (ha:0 ≤ a∧a ≤ 255) (hb:0 ≤ b∧b ≤ 255) (h:UInt8.ofNat a.toNat = UInt8.ofNat b.toNat):a = b:=by
 have h1:=congrArg UInt8.toNat h
 simp at h1
 omega
theorem strOf_inj:∀ {l m:List Int},inB l→inB m→(l.map fun n=>UInt8.ofNat n.toNat) = (m.map fun n=>UInt8.ofNat n.toNat)→l = m
 | [],[],_,_,_=>rfl
 | [],_ :: _,_,_,h=>by simp at h
 | _ :: _,[],_,_,h=>by simp at h
 | a :: l,b :: m,ha,hb,h=>by
  simp only [List.map_cons,List.cons.injEq] at h
  rw [u8_inj (ha a (by simp)) (hb b (by simp)) h.1,strOf_inj (fun x hx=>ha x (by simp [hx])) (fun x hx=>hb x (by simp [hx])) h.2]
theorem toListLoop (b:ByteArray):∀ (m i:Nat) (r:List UInt8),b.size - i = m→ByteArray.toList.loop b i r = r.reverse ++ b.data.toList.drop i:=by
 intro m
 induction m with
 | zero=>
  intro i r h
  have hs:b.size = b.data.toList.length:=rfl
  rw [ByteArray.toList.loop,if_neg (by omega),List.drop_eq_nil_of_le (by omega),List.append_nil]
 | succ m ih=>
  intro i r h
  have hs:b.size = b.data.toList.length:=rfl
  have hi:i < b.data.toList.length:=by omega
  rw [ByteArray.toList.loop,if_pos (by omega),ih (i + 1) _ (by omega),List.drop_eq_getElem_cons hi,List.reverse_cons,List.append_assoc]
  congr 1
  have:b.get! i = b.data.toList[i]:=by
   show b.data[i]! = _
   rw [getElem!_pos b.data i (by simpa using hi)];simp
  rw [this];rfl
theorem toList_data (b:ByteArray):b.toList = b.data.toList:=by
 unfold ByteArray.toList
 rw [toListLoop b _ 0 [] rfl];rfl
theorem str_eq {l m:List Int} (hl:inB l) (hm:inB m):((strOfNums l).toList == (strOfNums m).toList) = decide (l = m):=by
 rw [Bool.eq_iff_iff,decide_eq_true_iff,beq_iff_eq,toList_data,toList_data,strOfNums_data,strOfNums_data]
 constructor
 ·exact fun h=>strOf_inj hl hm h
 ·rintro rfl;rfl
section
variable {P:Program} {E:Env P} {n:Sh} {X:Cx} {s:List K} {fr:Fr} {A:List Ch} {ops:Array Oper} {rest:List Oper} {d:Nat} {ty t t' el:TypeId} {pos:String} {after:Array Edge} {v:Value} {x y:Operand} {w:World} {l l':List Int} {a b:ByteArray}
theorem R_bstr (ht:lk E.und t = some (.slice el)) (he:lk E.und el = some (.int .u8)) (ht':lk E.und t' = some .string) (hx:ev fr x = some v) (hs:Sl w v (By l)):OpV P n fr (.convert t t' x) ty w (.string (strOfNums l)) w:=⟨fun ac ha _ _ _ _=>by
 obtain ⟨o,c,rfl,h1,h2,h3⟩:=hs
 have h4:=run_convert_bytes_string (P:=P) w t t' el o (By l).length c (E.un ht) (E.un he) (E.un ht')
 have h8:(convert t t' (.slice o (By l).length c)).run P w = .ok (.string (strOfNums l)) w:=by
  rw [h4]
  cases o with
  | none=>
   cases l with
   | nil=>rfl
   | cons z r=>obtain ⟨_,h,_⟩:=h3 0 _ (by rfl);cases h
  | some ad=>
   have h5:=run_loadCells_list (P:=P) w ad (By l) (fun j u hj=>by obtain ⟨q,h6,h7⟩:=h3 j u hj;cases h6;exact h7)
   rw [run_bytesToString w ad _ c l h5,foldl_push_bytes]
   simp [strOfNums,ByteArray.empty,ByteArray.emptyWithCapacity]
   rfl
 simp only [execOp,ha.ev hx]
 simp only [Sem.run_bind,h8,Result.andThen_ok]
 rfl⟩
theorem bst (k:TO E n X s ops rest ((d,.string (strOfNums l)) :: fr) A) (hx:ev fr x = some v:=by rfl) (hh:Has A (vw v (By l)):=by exact hasA) (ht:lk E.und t = some (.slice el):=by rfl) (he:lk E.und el = some (.int .u8):=by rfl) (ht':lk E.und t' = some .string:=by rfl) (hd:Nat.blt d n.n = true:=by rfl) :
  TO E n X s ops (⟨some d,.convert t t' x,ty,pos,after,none⟩ :: rest) fr A:=TO.val (fun _ h=>R_bstr ht he ht' hx (has_sl h hh)) k hd
theorem R_streq (hx:ev fr x = some (.string a)) (hy:ev fr y = some (.string b)):OpV P n fr (.binOp .eql t x y t') ty w (.bool (a.toList == b.toList)) w:=⟨fun ac ha _ _ _ _=>by
 have hg:(eqGuard .eql t x y (.string a) (.string b)).run P w = .ok () w:=rfl
 simp only [execOp,ha.ev hx,ha.ev hy]
 simp [hg,binOp,Op.stringOp]⟩
theorem seq_ (k:TO E n X s ops rest ((d,.bool (decide (l = l'))) :: fr) A) (hx:ev fr x = some (.string (strOfNums l)):=by rfl) (hy:ev fr y = some (.string (strOfNums l')):=by rfl) (hl:inB l:=by assumption) (hl':inB l':=by assumption) (hd:Nat.blt d n.n = true:=by rfl) :
  TO E n X s ops (⟨some d,.binOp .eql t x y t',ty,pos,after,none⟩ :: rest) fr A:=TO.val (fun _ _=>by rw [← str_eq hl hl'];exact R_streq hx hy) k hd
end
attribute [local irreducible] Fit pt own ro vw mpc lpt vels rels mow lrc dfr
attribute [local irreducible] lmp lme mit velg relg
theorem SameBytes_tr (a b:Value) (l m:List Int) (hl:inB l) (hm:inB m):Tr Tryz.prog 11 [a,b] [vw a (By l),vw b (By m)] [] fun v D=>v = .bool (decide (l = m))∧D = []:=by
 refine Tr.enter env _ Tryz.func11 (by kernel_rfl) rfl Tryz.ntmps11 rfl (by repeat (first | exact has00 | refine has01 ?_)) fun w0=>?_
 repeat' first|refine bst (l:=l) ?_|refine bst (l:=m) ?_|refine seq_ ?_|(refine wo ?_;first|refine oa ?_)|refine sq ?_|refine rg ?_|refine xc ?_|refine nl ?_|refine rt ?_
 exact r1 ⟨rfl,rfl⟩
end Go.Art
namespace Go.Art
open Go Go.Proofs Go.RowKit
theorem xorL_take {l m:List Int} (h:l.length = m.length) {i:Nat} (hi:i < l.length):(xorL l m).take (i + 1) = (xorL l m).take i ++ [bxr (l.getD i 0) (m.getD i 0)]:=by
 rw [take_succ' (by rw [xorL_len h];exact hi) 0,xorL_get h hi]
attribute [local irreducible] Fit pt own ro vw mpc lpt vels rels mow lrc dfr
attribute [local irreducible] lmp lme mit velg relg bnd owl
theorem CopyBytes_tr (a:Value) (l:List Int) (hl:l.length ≤ 1099511627776):Tr Tryz.prog 7 [a] [vw a (By l)] [] fun v D=>v.oneCell' = true∧D = [own TyB v (By l)]:=by
 refine Tr.enter env _ Tryz.func7 (by kernel_rfl) rfl Tryz.ntmps7 rfl (by repeat (first | exact has00 | refine has01 ?_)) fun w0=>?_
 repeat' first|(refine sl0 fun v=>?_)|(refine ap (xs:=[]) (news:=By l) (fun v2=>?_) (h1:=By_one _);refine TO.one (v:=v2) (xs:=[] ++ By l) fun h2=>?_)|(refine wo ?_;first|refine oa ?_)|refine sq ?_|refine rg ?_|refine xc ?_|refine nl ?_|refine rt ?_
 exact r1 ⟨h2,rfl⟩
structure ClG where
 i:Nat
 o:Value
 hs:List Value
theorem OverBytes_tr (a:Value) (l:List Int):Tr Tryz.prog 13 [a] [] [own TyB a (By l)] fun v D=>D = []:=by
 refine Tr.enter env _ Tryz.func13 (by kernel_rfl) rfl Tryz.ntmps13 rfl (by repeat (first | exact has00 | refine has01 ?_)) fun w0=>?_
 refine TC.fact (vw_len (v:=a) (xs:=By l) hasA) fun hll=>?_
 rw [By_len] at hll
 repeat' first|(refine wo ?_;first|refine oa ?_)|refine sq ?_|refine rg ?_|refine xc ?_|refine nl ?_|refine bk ?_
 refine TC.loop (ι:=Nat × List Int) (fun g=>[(2,I g.1)]) (fun g=>[own TyB a (By g.2)]) (fun g=>g.1 ≤ l.length∧g.2.length = l.length) (fun g=>l.length - g.1) (0,l) [0] ⟨Nat.zero_le _,rfl⟩ ?_ (hf:=by dsimp only;exact fitA)
 rintro ⟨i,m⟩ ⟨hi,hm⟩
 dsimp only at hi hm ⊢
 by_cases hlt:i < l.length
 ·repeat' first|(refine TO.val (v:=y8 (bxr (m.getD i 0) 165)) (fun _ _=>R_bxr rfl rfl) ?_)|refine sob (l:=m) (j:=i) ?_|(refine wo ?_;first|(refine ao ?_;first|refine aw ?_|refine oa ?_)|refine oa ?_|refine lnm ?_|refine ixmn ?_|refine lb ?_)|(refine gc ?_;first|(refine ci (fun hB=>?_) (fun hB=>?_) <;> try (exfalso;omega)))|refine sq ?_|refine rg ?_|refine xc ?_|refine nl ?_|refine sk ?_|refine bk ?_|refine xb ?_
  exact lp (i + 1,m.set i (bxr (m.getD i 0) 165)) ⟨hlt,by dsimp only;rw [List.length_set];exact hm⟩ (hf:=by dsimp only;exact fitA)
 ·repeat' first|(refine wo ?_;first|(refine ao ?_;first|refine oa ?_)|refine oa ?_|refine lnm ?_)|(refine gc ?_;first|(refine ci (fun hB=>?_) (fun hB=>?_) <;> try (exfalso;omega)))|refine sq ?_|refine rg ?_|refine xc ?_|refine nl ?_|refine xe ?_
  exact e0 rfl
theorem SameLists_tr (a b:Value) (hs ks:List Value) (ls:List (List Int)) (hl:∀ l ∈ ls,inB l):Tr Tryz.prog 32 [a,b] [vw a hs,velg y8 hs ls,vw b ks,velg y8 ks ls] []
  fun v D=>v = .bool true∧D = []:=by
 refine Tr.enter env _ Tryz.func32 (by kernel_rfl) rfl Tryz.ntmps32 rfl (by repeat (first | exact has00 | refine has01 ?_)) fun w0=>?_
 refine TC.elg (g:=y8) (hs:=hs) (ls:=ls) (fun h1=>?_)
 refine TC.elg (g:=y8) (hs:=ks) (ls:=ls) (fun h2=>?_)
 refine TC.fact (vw_len (v:=a) (xs:=hs) hasA) fun h3=>?_
 repeat' first|(refine wo ?_;first|(refine ao ?_;first|refine oa ?_)|refine oa ?_|refine ln ?_)|refine sq ?_|refine rg ?_|refine xc ?_|refine nl ?_|refine bk ?_
 refine TC.loop (ι:=Nat) (fun i=>[(6,I i),(5,.bool true)]) (fun _=>[]) (fun i=>i ≤ ls.length) (fun i=>ls.length - i) 0 [0,1] (Nat.zero_le _) ?_ (hs:=by rw [decide_eq_true (show (hs.length:Int) = ks.length by omega)];(repeat (refine Sub.cons rfl (by first | rfl | go_num) ?_));exact Sub.nil)
 intro i hi
 by_cases hlt:i < ls.length
 ·have hin:=hl _ (getD_memL hlt)
  repeat' first|(refine qca (v:=.bool true) (SameBytes_tr (hs.getD i nS) (ks.getD i nS) (ls.getD i []) (ls.getD i []) hin hin) (fun u D h=>⟨by rw [h.1,decide_eq_true rfl],h.2⟩) ?_ (hp:=has1 (has_elg (has_velg memA) hlt) (has1 (has_elg (has_velg memA) hlt) has0)))|(refine wo ?_;first|(refine ao ?_;first|refine aw ?_|refine oa ?_)|refine oa ?_|refine ln ?_|refine gy ?_)|(refine gc ?_;first|(refine ci (fun hB=>?_) (fun hB=>?_) <;> try (exfalso;omega)))|refine sq ?_|refine rg ?_|refine xc ?_|refine nl ?_|refine sk ?_|refine bk ?_|refine xb ?_|refine rq ?_|refine nq ?_|(refine wq ?_;first|refine qa ?_|refine qlv ?_|refine qixn ?_)
  exact lp (i + 1) hlt
 ·repeat' first|(refine wo ?_;first|(refine ao ?_;first|refine oa ?_)|refine oa ?_|refine ln ?_|refine gy ?_)|(refine gc ?_;first|(refine ci (fun hB=>?_) (fun hB=>?_) <;> try (exfalso;omega)))|refine sq ?_|refine rg ?_|refine xc ?_|refine nl ?_|refine xe ?_|refine rt ?_
  exact r1 ⟨rfl,rfl⟩
theorem RBCheck_tr (s:Value) (hs:List Value) (ls:List (List Int)):Tr Tryz.prog 137 [s] [vw s hs,velg y8 hs ls] [] fun v D=>v = I (blkE ls)∧D = []:=by
 by_cases hg:ls.length < 1∨65536 < ls.length∨(ls.getD 0 []).length < 1∨65535 < (ls.getD 0 []).length
 ·rw [show blkE ls = 2 from if_pos hg]
  refine Tr.enter env _ Tryz.func137 (by kernel_rfl) rfl Tryz.ntmps137 rfl (by repeat (first | exact has00 | refine has01 ?_)) fun w0=>?_
  refine TC.elg (g:=y8) (hs:=hs) (ls:=ls) (fun h1=>?_)
  refine TC.fact (vw_len (v:=s) (xs:=hs) hasA) fun h3=>?_
  repeat' first|refine lnm (l:=ls.getD 0 []) ?_ (hh:=has_elg (has_velg memA) (by omega))|(refine wo ?_;first|(refine ao ?_;first|refine oa ?_)|refine oa ?_|refine lv ?_|refine ln ?_|refine ix ?_|refine gy ?_|refine gn ?_|(refine gsi (fun hB=>?_) (fun hB=>?_) <;> try (exfalso;omega)))|(refine gc ?_;first|refine ct ?_|(refine ci (fun hB=>?_) (fun hB=>?_) <;> try (exfalso;omega)))|refine sq ?_|refine rg ?_|refine xc ?_|refine nl ?_|refine rt ?_
  all_goals first | exact r1 ⟨rfl,rfl⟩ | (exfalso;omega)
 rw [show blkE ls = if ls.any (fun l=>decide ((l.length:Int) ≠ ((ls.getD 0 []).length:Int))) then 2 else 0 from if_neg hg]
 refine Tr.enter env _ Tryz.func137 (by kernel_rfl) rfl Tryz.ntmps137 rfl (by repeat (first | exact has00 | refine has01 ?_)) fun w0=>?_
 refine TC.elg (g:=y8) (hs:=hs) (ls:=ls) (fun h1=>?_)
 refine TC.fact (vw_len (v:=s) (xs:=hs) hasA) fun h3=>?_
 repeat' first|refine lnm (l:=ls.getD 0 []) ?_ (hh:=has_elg (has_velg memA) (by omega))|(refine wo ?_;first|(refine ao ?_;first|refine oa ?_)|refine oa ?_|refine lv ?_|refine ln ?_|refine ix ?_|refine gy ?_|(refine gsi (fun hB=>?_) (fun hB=>?_) <;> try (exfalso;omega)))|(refine gc ?_;first|(refine ci (fun hB=>?_) (fun hB=>?_) <;> try (exfalso;omega)))|refine sq ?_|refine rg ?_|refine xc ?_|refine nl ?_|refine sk ?_|refine bk ?_
 refine TC.loop (ι:=Nat) (fun i=>[(3,I i)]) (fun _=>[]) (fun i=>i ≤ ls.length∧∀ j,j < i→(ls.getD j []).length = (ls.getD 0 []).length) (fun i=>ls.length - i) 0 [0] ⟨Nat.zero_le _,fun j h=>absurd h (Nat.not_lt_zero j)⟩ ?_
 rintro i ⟨hi,hal⟩
 by_cases hlt:i < ls.length
 ·repeat' first|refine qlnm (l:=ls.getD i []) ?_ (hh:=has_elg (has_velg memA) hlt)|refine qlnm (l:=ls.getD 0 []) ?_ (hh:=has_elg (has_velg memA) (by omega))|(refine wo ?_;first|(refine ao ?_;first|refine aw ?_|refine oa ?_)|refine oa ?_|refine ln ?_)|(refine gc ?_;first|(refine ci (fun hB=>?_) (fun hB=>?_) <;> try (exfalso;omega))|(refine cn (fun hB=>?_) (fun hB=>?_) <;> try (exfalso;omega)))|refine sq ?_|refine rg ?_|refine xc ?_|refine nl ?_|refine sk ?_|refine bk ?_|refine rt ?_|refine xb ?_|refine rq ?_|refine nq ?_|(refine wq ?_;first|(refine qao ?_;first|refine qa ?_)|refine qa ?_|refine qlv ?_|refine qixn ?_|refine qix ?_)
  ·refine r1 ⟨?_,rfl⟩
   rw [if_pos (List.any_eq_true.2 ⟨_,getD_memL hlt,decide_eq_true (by omega)⟩)]
  ·exact lp (i + 1) ⟨hlt,fun j hj=>by
    by_cases e:j = i
    ·subst e;omega
    ·exact hal j (by omega)⟩
 ·obtain rfl:i = ls.length:=by omega
  repeat' first|(refine wo ?_;first|(refine ao ?_;first|refine oa ?_)|refine oa ?_|refine ln ?_)|(refine gc ?_;first|(refine ci (fun hB=>?_) (fun hB=>?_) <;> try (exfalso;omega)))|refine sq ?_|refine rg ?_|refine xc ?_|refine nl ?_|refine xe ?_|refine rt ?_
  refine r1 ⟨?_,rfl⟩
  rw [if_neg]
  intro h
  obtain ⟨l,hl,hp⟩:=List.any_eq_true.1 h
  obtain ⟨j,hj,rfl⟩:=List.mem_iff_getElem.1 hl
  have:=hal j hj
  rw [show ls.getD j [] = ls[j] by simp [List.getD_eq_getElem?_getD,hj]] at this
  exact (of_decide_eq_true hp) (by rw [this])
theorem RXor_tr (a b:Value) (l m:List Int) (hl:l.length = m.length) (hm:l.length ≤ 1099511627776):Tr Tryz.prog 159 [a,b] [vw a (By l),vw b (By m)] [] fun v D=>∃ o,v = tup2 o (I 0)∧o.oneCell' = true∧D = [own TyB o (By (xorL l m))]:=by
 refine Tr.enter env _ Tryz.func159 (by kernel_rfl) rfl Tryz.ntmps159 rfl (by repeat (first | exact has00 | refine has01 ?_)) fun w0=>?_
 have hla:=By_len l
 have hlb:=By_len m
 repeat' first|(refine ln (xs:=By l) ?_;rw [hla])|(refine ln (xs:=By m) ?_;rw [hlb])|(refine wo ?_;first|(refine ao ?_;first|refine oa ?_)|refine oa ?_)|(refine gc ?_;first|(refine cn (fun hB=>?_) (fun hB=>?_) <;> try (exfalso;omega)))|refine sq ?_|refine rg ?_|refine xc ?_|refine nl ?_|refine sk ?_|refine bk ?_
 refine TC.im (own_nil TyB _) ?_
 refine TC.loop (ι:=Nat × Value) (fun g=>[(7,I g.1),(6,g.2)]) (fun g=>[own TyB g.2 (By ((xorL l m).take g.1))]) (fun g=>g.1 ≤ l.length∧g.2.oneCell' = true) (fun g=>l.length - g.1) (0,nS) [0,1] ⟨Nat.zero_le _,rfl⟩ ?_ (hf:=by dsimp only;exact fitA)
 rintro ⟨i,o⟩ ⟨hi,ho⟩
 dsimp only at hi ho ⊢
 have hxl:=xorL_len hl
 by_cases hlt:i < l.length
 ·have htk:=xorL_take hl hlt
  have hp:=By_get l i hlt
  have hq:=By_get m i (by omega)
  have htl:((xorL l m).take i).length = i:=by rw [List.length_take];omega
  generalize l.getD i 0 = p at *
  generalize m.getD i 0 = q at *
  generalize (xorL l m).take i = T at *
  repeat' first|(refine ln (xs:=By l) ?_;rw [hla])|(refine wo ?_;first|(refine ao ?_;first|refine oa ?_)|refine oa ?_)|(refine gc ?_;first|(refine ci (fun hB=>?_) (fun hB=>?_) <;> try (exfalso;omega)))|refine sq ?_|refine rg ?_|refine xc ?_|refine nl ?_|refine sk ?_|refine bk ?_
  refine rs (id:=7) (fun w=>Sl w a (By l)∧Sl w b (By m)) ?_ (fun w hw=>⟨has_sl hw hasA,has_sl hw hasA⟩)
  refine tka 0 ?_
  refine tka 1 ?_
  refine tka 2 ?_
  refine tkx 3 (len:=l.length) (fun w h=>⟨_,h.1,hla⟩) ?_
  refine tk 4 (v:=y8 p) (hi:=rfl) (fun w h=>by exact R_load (E:=env) rfl rfl rfl (h.1.cell hp)) ?_
  refine tka 5 ?_
  refine tka 6 ?_
  refine tkx 7 (len:=l.length) (fun w h=>⟨_,h.2,by rw [hlb];omega⟩) ?_
  refine tk 8 (v:=y8 q) (hi:=rfl) (fun w h=>by exact R_load (E:=env) rfl rfl rfl (h.2.cell hq)) ?_
  refine tk 9 (v:=y8 (bxr p q)) (hi:=rfl) (fun w h=>by exact R_bxr rfl rfl) ?_
  refine t1 10 ?_
  refine sli (vs:=[y8 (bxr p q)]) (fun v1=>?_) (h1:=one_cons rfl one_nil)
  refine nl ?_
  refine te (fun w hw=>⟨has_sl hw hasA,has_sl hw hasA⟩) ?_
  refine t1 11 ?_
  refine apb (l:=T) (news:=[bxr p q]) (fun v2 h2=>?_)
  refine nl ?_
  refine te (fun w hw=>⟨has_sl hw hasA,has_sl hw hasA⟩) ?_
  refine tka 12 ?_
  refine t0 ?_
  repeat' first|(refine wo ?_;first|(refine ao ?_;first|refine aw ?_)|refine oa ?_)|refine rg ?_|refine xc ?_|refine nl ?_|refine xb ?_
  exact lp (i + 1,v2) ⟨hlt,h2⟩ (hf:=by dsimp only;rw [htk];exact fitA)
 ·obtain rfl:i = l.length:=by omega
  repeat' first|(refine ln (xs:=By l) ?_;rw [hla])|(refine wo ?_;first|(refine ao ?_;first|refine oa ?_)|refine oa ?_)|(refine gc ?_;first|(refine ci (fun hB=>?_) (fun hB=>?_) <;> try (exfalso;omega)))|refine sq ?_|refine rg ?_|refine xc ?_|refine nl ?_|refine xe ?_|refine rt ?_
  rw [← hxl,List.take_length]
  exact r2 ⟨o,rfl,ho,rfl⟩
end Go.Art
namespace Go.Art
open Go Go.Proofs Go.RowKit
def setPartsF (pf:Nat→Option (Nat × Nat)):List Value→List (Nat × Value)→Option (List Value)
 | cs,[]=>some cs
 | cs,(i,v) :: r=>match pf i with
  | some (off,sz)=>bif Nat.beq v.cells.size sz && Nat.ble (off + sz) cs.length then setPartsF pf (cs.take off ++ v.cells.toList ++ cs.drop (off + sz)) r else none
  | none=>none
theorem fill_partsF {pf:Nat→Option (Nat × Nat)}:∀ {vs:List (Nat × Value)} {cs cs':List Value},setPartsF pf cs vs = some cs'→Instr.fill pf cs.toArray vs = some cs'.toArray
 | [],cs,cs',h=>by simp [setPartsF] at h;simp [Instr.fill,h]
 | (i,v) :: r,cs,cs',h=>by
  simp only [setPartsF] at h
  cases hp:pf i with
  | none=>rw [hp] at h;cases h
  | some q=>
   obtain ⟨off,sz⟩:=q
   rw [hp] at h
   simp only at h
   by_cases hc:(Nat.beq v.cells.size sz && Nat.ble (off + sz) cs.length) = true
   ·rw [hc,cond_true] at h
    simp only [Bool.and_eq_true] at hc
    have h1:=Nat.eq_of_beq_eq_true hc.1
    have h2:=Nat.le_of_ble_eq_true hc.2
    simp only [Instr.fill,hp]
    have hx1:¬ ((decide (v.cells.size ≠ sz) || decide (off + v.cells.size > cs.toArray.size)) = true):=by simp [h1];omega
    rw [if_neg hx1]
    have hf:(v.cells.zipIdx.foldl (fun cs (x:Value × Nat)=>cs.setIfInBounds (off + x.2) x.1) cs.toArray) = (cs.take off ++ v.cells.toList ++ cs.drop (off + sz)).toArray:=by
     have:=foldl_set v.cells.toList off 0 cs.toArray (by simp;omega)
     simp only [Nat.add_zero] at this
     rw [← Array.foldl_toList,Array.toList_zipIdx,this]
     simp [h1]
    show Instr.fill _ (v.cells.zipIdx.foldl (fun cs (x:Value × Nat)=>cs.setIfInBounds (off + x.2) x.1) cs.toArray) r = _
    rw [hf]
    exact fill_partsF h
   ·have:(Nat.beq v.cells.size sz && Nat.ble (off + sz) cs.length) = false:=by simpa only [Bool.not_eq_true] using hc
    rw [this,cond_false] at h;cases h
section
variable {P:Program} {E:Env P} {n:Sh} {X:Cx} {s:List K} {fr:Fr} {A A':List Ch} {ops:Array Oper} {rest:List Oper} {d m sz sz1 by_ by1:Nat} {ty t t' el:TypeId} {pos:String} {after:Array Edge} {x y:Operand} {w:World} {cs zs vs:List Value} {v z:Value} {parts:List (Nat × Operand)} {ps:List (Nat × Value)} {dt:TypeDesc} {i:Int} {k1:IntKind}
theorem R_buildArr (ht:lk E.und t = some (.array m el)) (he:lk E.inf t = some (.agg zs.toArray,sz,by_)) (h1:lk E.inf el = some (z,sz1,by1)) (hv:evps fr parts = some ps) (hs:setPartsF (fun i=>some (i * sz1,sz1)) zs ps = some cs):OpV P n fr (.build t parts.toArray) ty w (.agg cs.toArray) w:=⟨fun a ha _ _ _ _=>by
 obtain ⟨inf,hi,hz,_,_⟩:=E.info he
 obtain ⟨inf1,hi1,_,hz1,_⟩:=E.info h1
 have h2:=ha.evps hv
 have h3:=fill_partsF hs
 have hb:(Instr.build t (ps.toArray)).run P w = .ok (.agg cs.toArray) w:=by
  unfold Instr.build
  simp [zeroValue,typeInfo,run_underlying (P:=P) (E.un ht),hi,hz,Value.cells,sizeOf,hi1,hz1,h3]
 simp only [execOp]
 show Sem.run P (do let v ← Instr.build t ((parts.toArray.map fun (p:Nat × Operand)=>(p.1,a.eval p.2)));pure (Next.value v)) w = _
 rw [List.map_toArray,h2]
 simp [hb]⟩
theorem R_indexA (ht:lk E.und t = some (.array m el)) (hdt:lk E.und el = some dt) (hg:aggB dt = true) (h1:lk E.inf el = some (z,sz1,by1)) (hx:ev fr x = some (.agg cs.toArray)) (hy:ev fr y = some (.int k1 i)) (hi:0 ≤ i∧i < m) (hv:(cs.drop (i.toNat * sz1)).take sz1 = vs) :
  OpV P n fr (.index t x y) ty w (.agg vs.toArray) w:=⟨fun a ha _ _ _ _=>by
 obtain ⟨inf1,hi1,_,hz1,_⟩:=E.info h1
 subst hv
 simp only [execOp,ha.ev hx,ha.ev hy]
 simp [Instr.index,asIntOf,run_underlying (P:=P) (E.un ht),hi,part,aggB_t (w:=w) hdt hg,sizeOf,typeInfo,hi1,hz1,List.drop_take,Nat.add_sub_cancel_left]⟩
theorem R_index1 (ht:lk E.und t = some (.array m el)) (hdt:lk E.und el = some dt) (hg:aggB dt = false) (h1:lk E.inf el = some (z,1,by1)) (hx:ev fr x = some (.agg cs.toArray)) (hy:ev fr y = some (.int k1 i)) (hi:0 ≤ i∧i < m) (hv:cs[i.toNat]? = some v) :
  OpV P n fr (.index t x y) ty w v w:=⟨fun a ha _ _ _ _=>by
 obtain ⟨inf1,hi1,_,hz1,_⟩:=E.info h1
 simp only [execOp,ha.ev hx,ha.ev hy]
 simp [Instr.index,asIntOf,run_underlying (P:=P) (E.un ht),hi,part,aggB_run (w:=w) hdt hg,sizeOf,typeInfo,hi1,hz1,hv]⟩
theorem bda (k:TO E n X s ops rest ((d,.agg cs.toArray) :: fr) A) (hv:evps fr parts = some ps:=by rfl) (ht:lk E.und t = some (.array m el):=by rfl) (he:lk E.inf t = some (.agg zs.toArray,sz,by_):=by rfl) (h1:lk E.inf el = some (z,sz1,by1):=by rfl)
  (hs:setPartsF (fun i=>some (i * sz1,sz1)) zs ps = some cs:=by rfl) (hd:Nat.blt d n.n = true:=by rfl):TO E n X s ops (⟨some d,.build t parts.toArray,ty,pos,after,none⟩ :: rest) fr A:=TO.val (fun _ _=>R_buildArr ht he h1 hv hs) k hd
end
theorem SQ_callv {P:Program} {E:Env P} {n:Sh} {Q0:Exit→Act→World→Prop} {s:List K} {C:World→Prop} {ops:Array Oper} {rest:List Oper} {fr:Fr} {d:Nat} {ty:TypeId} {pos:String} {after:Array Edge} {f:FuncId} {g:Operand} {cap:Array Value} {xs:List Operand} {ats:Array TypeId} {vs:List Value} {v:Value} (hg:ev fr g = some (.func (.func f) #[] cap)) (hv:evs fr xs = some vs) (hd:Nat.blt d n.n = true)
  (hf:∀ w',C w'→Fn P f (vs ++ cap.toList) w' fun u w''=>u = v∧C w'') (h:SQ E n Q0 s C ops rest ((d,v) :: fr)) :
  SQ E n Q0 s C ops (⟨some d,.call ⟨.value g,xs.toArray,ats⟩,ty,pos,after,none⟩ :: rest) fr:=⟨fun a ha=>by
 refine wpQuiet_step fun K hK=>?_
 simp only [Region.wanted,if_true]
 refine ⟨v,fun w' hw'=>?_,hK _ (h.run _ (ha.put hd v))⟩
 unfold Oper.quietAt
 rw [run_callv (ha.ev hg) (ha.evs hv) (hf w' hw').can]
 exact ⟨rfl,(hf w' hw').calls.mono fun e w'' ⟨u,he,hu,hC⟩=>⟨by rw [he,hu],hC⟩⟩⟩
section
variable {P:Program} {E:Env P} {n:Sh} {X:Cx} {s:List K} {fr:Fr} {A:List Ch} {ops:Array Oper} {rest:List Oper} {d:Nat} {ty:TypeId} {pos:String} {after:Array Edge} {v:Value} {f:FuncId} {g:Operand} {cap:Array Value} {args:List Operand} {ats:Array TypeId} {vs:List Value} {pre:List Ch} {R:Value→List Ch→Prop}
theorem qcav (hf:Tr P f (vs ++ cap.toList) pre [] R) (hR:∀ u D,R u D→u = v∧D = []) (k:TQ E n X s ops rest ((d,v) :: fr) A) (hg:ev fr g = some (.func (.func f) #[] cap):=by rfl) (hv:evs fr args = some vs:=by rfl)
  (hp:∀ c ∈ pre,Has A c:=by (repeat (first | exact has0 | refine has1 hasA ?_));first | done | fail) (hd:Nat.blt d n.n = true:=by rfl):TQ E n X s ops (⟨some d,.call ⟨.value g,args.toArray,ats⟩,ty,pos,after,none⟩ :: rest) fr A:=
 ⟨SQ_callv hg hv hd (fun w hw=>(hf.at (F:=A) Fit.nil hp hw).mono fun u w' ⟨D,hu,hS⟩=>by obtain ⟨rfl,rfl⟩:=hR u D hu;exact ⟨rfl,hS⟩) k.run⟩
end
end Go.Art
namespace Go.Art
open Go Go.Proofs Go.RowKit
section
variable {P:Program} {E:Env P} {n:Sh} {X:Cx} {s:List K} {fr:Fr} {A A' B F D G:List Ch} {ops:Array Oper} {rest l:List Oper} {d:Nat} {o:Op} {ty t t':TypeId} {pos:String} {after:Array Edge} {v u:Value} {w:World} {Q0:Exit→Act→World→Prop}
structure FnD (P:Program) (f:FuncId) (args:List Value) (w:World) (R:Value→World→Prop):Prop where
 can:Callable P f
 calls:∀ u,CallsDIn (FF none) 0 P f args.toArray u w fun e u' w'=>u' = u∧∃ v,e = .returned v∧R v w'
theorem FnD.enter {f:FuncId} {fn:Func} {c:Code} {args:List Value} {R:Value→World→Prop} (E:Env P) (n:Nat) (hf:P.funcs[f]? = some fn) (hnm:(fn.name == "runtime.NumGoroutine") = false) (hb:fn.body = some c)
  (hn:fn.ntmps = n) (hl:Nat.ble args.length n = true) (h:SC E ⟨n,[],none⟩ (bodyPost P fn (RetP R)) [] c (argFr args 0) w):FnD P f args w R:=by
 refine ⟨⟨fn,hf,hnm,by simp [hb]⟩,fun u=>callsDIn_of_wp hf hb trivial ?_⟩
 subst hn
 have hl':args.length ≤ fn.ntmps:=Nat.le_of_ble_eq_true hl
 exact h.run _ ⟨by simp;omega,rfl,argFr_slot args fn.ntmps⟩
structure TrD (P:Program) (f:FuncId) (args:List Value) (pre A:List Ch) (R:Value→List Ch→Prop):Prop where
 run:∀ w,Sat (pre ++ A) w→FnD P f args w (PR w A R)
 lent:∀ c ∈ pre,∀ b,¬ c.wr b∧¬ c.rd b
theorem St.startD {X:Cx} {pre:List Ch} {w:World} (hw:Sat (pre ++ X.A0) w) (hx:X.w0 = w) (hp:∀ c ∈ pre,∀ b,¬ c.wr b∧¬ c.rd b):St X (pre ++ X.A0) w:=by
 subst hx
 refine ⟨hw,(Mv.refl X.w0 X.A0).trans ⟨rfl,rfl,rfl,Nat.le_refl _,fun _ _ _=>rfl,fun b hb=>?_,fun b hb=>?_⟩⟩
 ·rcases wrs_app.1 hb with ⟨c,hc,h1⟩ | h1
  ·exact absurd h1 (hp c hc b).1
  ·exact .inl h1
 ·rcases rds_app.1 hb with ⟨c,hc,h1⟩ | h1
  ·exact absurd h1 (hp c hc b).2
  ·exact .inr (.inl h1)
theorem TrD.enter {f:FuncId} {fn:Func} {c:Code} {args:List Value} {pre A:List Ch} {R:Value→List Ch→Prop} (E:Env P) (n:Nat) (hf:P.funcs[f]? = some fn) (hnm:(fn.name == "runtime.NumGoroutine") = false) (hb:fn.body = some c)
  (hn:fn.ntmps = n) (hl:Nat.ble args.length n = true) (hp:∀ c ∈ pre,∀ b,¬ c.wr b∧¬ c.rd b) (h:∀ w0,TC E ⟨n,[],none⟩ ⟨bodyPost P fn (RetP (PR w0 A R)),w0,A⟩ [] c (argFr args 0) (pre ++ A)):TrD P f args pre A R:=
 ⟨fun w hw=>FnD.enter E n hf hnm hb hn hl ((h w).run w (St.startD (X:=⟨_,w,A⟩) hw rfl hp)),hp⟩
abbrev DP (P:Program) (fn:Func) (w0:World) (A:List Ch) (R:Value→List Ch→Prop):Exit→Act→World→Prop:=bodyPostDIn (FF none) 0 P fn (RetP (PR w0 A R))
theorem Tr.enterD {f:FuncId} {fn:Func} {c:Code} {args:List Value} {pre A:List Ch} {R:Value→List Ch→Prop} (E:Env P) (n:Nat) (hf:P.funcs[f]? = some fn) (hnm:(fn.name == "runtime.NumGoroutine") = false) (hb:fn.body = some c)
  (hn:fn.ntmps = n) (hl:Nat.ble args.length n = true) (hp:∀ c ∈ pre,∀ b,¬ c.wr b∧¬ c.rd b) (h:∀ w0,TC E ⟨n,[],none⟩ ⟨DP P fn w0 A R,w0,A⟩ [] c (argFr args 0) (pre ++ A)):Tr P f args pre A R:=by
 refine ⟨fun w hw=>⟨⟨fn,hf,hnm,by simp [hb]⟩,calls_of_FF (r:=none) (k:=0) (callsIn_of_wp_defers hf hb trivial ?_)⟩,hp⟩
 have h1:=(h w).run w (St.startD (X:=⟨_,w,A⟩) hw rfl hp)
 subst hn
 have hl':args.length ≤ fn.ntmps:=Nat.le_of_ble_eq_true hl
 exact h1.run _ ⟨by simp;omega,rfl,argFr_slot args fn.ntmps⟩
theorem run_resolveF {f:FuncId} {a:Act} {g:Operand} {cap:Array Value} {xs:List Operand} {ats:Array TypeId} {vs:List Value} (hg:a.eval g = .func (.func f) #[] cap) (hv:xs.map a.eval = vs) :
  (resolve a.eval ⟨.value g,xs.toArray,ats⟩ ty).run P w = .ok { target:=.fn (.func f) cap,args:=vs.toArray } w:=by
 have h2:(Array.map a.eval xs.toArray) = vs.toArray:=by simp [hv]
 simp only [resolve,h2,hg,Deferred.ofValue]
 simp
theorem SO_defer {m:Nat} {ds:List Deferred} {f:FuncId} {g:Operand} {cap:Array Value} {xs:List Operand} {ats:Array TypeId} {vs:List Value} (hg:ev fr g = some (.func (.func f) #[] cap)) (hv:evs fr xs = some vs)
  (h:SO E ⟨m,{ target:=.fn (.func f) cap,args:=vs.toArray } :: ds,none⟩ Q0 s ops rest fr w):SO E ⟨m,ds,none⟩ Q0 s ops (⟨none,.defer ⟨.value g,xs.toArray,ats⟩,ty,pos,after,none⟩ :: rest) fr w:=⟨fun a ha=>
 wpListIn_plain rfl fun K hK=>⟨fun _ _=>trivial,by
  have h1:=run_resolveF (P:=P) (w:=w) (ats:=ats) (ty:=ty) (ha.ev hg) (ha.evs hv)
  have h2:(execOp a.eval ⟨none,.defer ⟨.value g,xs.toArray,ats⟩,ty,pos,after,none⟩).run P w = .ok (.defer { target:=.fn (.func f) cap,args:=vs.toArray }) w:=by
   simp only [execOp]
   simp only [Sem.run_bind,h1,Result.andThen_ok]
   rfl
  have h3:(Oper.semAt (FF none).round a.eval ⟨none,.defer ⟨.value g,xs.toArray,ats⟩,ty,pos,after,none⟩).run P w = .ok (.defer { target:=.fn (.func f) cap,args:=vs.toArray }) w:=h2
  rw [h3]
  simp only [Oper.uponIn]
  exact hK _ _ (h.run _ ⟨ha.size,by show _ :: a.defers = _;rw [ha.defers],ha.slot⟩)⟩⟩
theorem df {m:Nat} {ds:List Deferred} {f:FuncId} {g:Operand} {cap:Array Value} {xs:List Operand} {ats:Array TypeId} {vs:List Value} (k:TO E ⟨m,{ target:=.fn (.func f) cap,args:=vs.toArray } :: ds,none⟩ X s ops rest fr A) (hg:ev fr g = some (.func (.func f) #[] cap):=by rfl) (hv:evs fr xs = some vs:=by rfl) :
  TO E ⟨m,ds,none⟩ X s ops (⟨none,.defer ⟨.value g,xs.toArray,ats⟩,ty,pos,after,none⟩ :: rest) fr A:=⟨fun w hw=>SO_defer hg hv (k.run w hw)⟩
theorem TrD.at {f:FuncId} {vs:List Value} {pre:List Ch} {R:Value→List Ch→Prop} {w:World} (hf:TrD P f vs pre B R) (hs:Fit A B F) (hp:∀ c ∈ pre,Has F c) (hw:St X A w):FnD P f vs w fun v w'=>∃ D,R v D∧St X (D ++ F) w':=by
 have h1:=hw.im hs
 have h2:=hf.run w (lend h1.sat hp)
 refine ⟨h2.can,fun u=>?_⟩
 obtain ⟨g1,g2⟩:=h2.calls u
 refine ⟨g1,fun c cs hc hr=>?_⟩
 obtain ⟨e,u',w',fr,⟨q1,v,q2,D,hR,hS,hM,hB⟩,q3⟩:=g2 c cs hc hr
 exact ⟨e,u',w',fr,⟨q1,v,q2,D,hR,h1.step hM hS hB⟩,q3⟩
theorem rD {m:Nat} {ds:List Deferred} {f:FuncId} {fn:Func} {vs:List Value} {cap:Array Value} {pre:List Ch} {w0:World} {A0:List Ch} {R R':Value→List Ch→Prop} (hf:TrD P f (vs ++ cap.toList) pre B R') (k:∀ v D,R' v D→TX E ⟨m,ds,none⟩ ⟨DP P fn w0 A0 R,w0,A0⟩ [] .ret fr (D ++ F)) (hs:Fit A B F:=by exact fitA)
  (hp:∀ c ∈ pre,Has F c:=by (repeat (first | exact has0 | refine has1 hasA ?_));first | done | fail):TX E ⟨m,{ target:=.fn (.func f) cap,args:=vs.toArray } :: ds,none⟩ ⟨DP P fn w0 A0 R,w0,A0⟩ [] .ret fr A:=⟨fun w hw=>⟨fun a ha=>by
 show LeavesIn (FF none) 0 P fn a.tmps (RetP (PR w0 A0 R)) a.defers .returning w
 rw [ha.defers]
 have h1:=hf.at hs hp hw
 have h2:=run_callFunc_fn h1.can (vs ++ cap.toList).toArray w
 have h3:vs.toArray ++ cap = (vs ++ cap.toList).toArray:=by simp
 unfold LeavesIn
 refine ⟨by simp,fun h=>(by cases h),.func f,cap,f,(vs ++ cap.toList).toArray,rfl,?_,fun _ _=>trivial,?_⟩
 ·simp only [invoke,h3];exact h2
 ·obtain ⟨g1,g2⟩:=h1.calls .returning
  refine ⟨g1,fun c cs hc hr=>?_⟩
  obtain ⟨e,u',w',fr',⟨q1,v,q2,D,hR,hS⟩,q3⟩:=g2 c cs hc hr
  refine ⟨e,u',w',fr',?_,q3⟩
  subst q1;subst q2
  exact ((k v D hR).run w' hS).run { a with defers:=ds } ⟨ha.size,rfl,ha.slot⟩⟩⟩
theorem rDn {m:Nat} {fn:Func} {w0:World} {A0:List Ch} {R:Value→List Ch→Prop} (h:R v D) (hr:∀ w,Sat A w→∀ a,Holds ⟨m,[],none⟩ a fr→(results fn a.tmps).run P w = .ok v w) (hf:Fit A D G:=by exact fitA) (nb:∀ c ∈ D,∀ b,¬ c.bd b:=by (repeat (first | exact nb0 | refine nb1 ?_));first | done | fail) :
  TX E ⟨m,[],none⟩ ⟨DP P fn w0 A0 R,w0,A0⟩ [] .ret fr A:=⟨fun w hw=>⟨fun a ha=>by
 show LeavesIn (FF none) 0 P fn a.tmps (RetP (PR w0 A0 R)) a.defers .returning w
 rw [ha.defers]
 unfold LeavesIn
 have h1:=hw.im (Im.trans hf (Im.drop _ _))
 exact ⟨v,hr w hw.sat a ha,v,rfl,D,h,h1.sat,h1.mv,nb⟩⟩⟩
theorem rDc {m:Nat} {fn:Func} {w0:World} {A0:List Ch} {R:Value→List Ch→Prop} {ct:TypeId} {dt:TypeDesc} {cs:List Value} {T:TypeId} {b j q:Nat} (h:R v D) (hr:fn.results = #[.cell q ct]:=by rfl) (ht:lk E.und ct = some dt:=by rfl) (hg:aggB dt = false:=by rfl) (hv:get fr q = some (.pointer (some ⟨b,j,none⟩)):=by rfl) (hm:pt b cs T ∈ A:=by exact memA) (hc:cs[j]? = some v:=by rfl)
  (hf:Fit A D G:=by exact fitA) (nb:∀ c ∈ D,∀ b,¬ c.bd b:=by (repeat (first | exact nb0 | refine nb1 ?_));first | done | fail):TX E ⟨m,[],none⟩ ⟨DP P fn w0 A0 R,w0,A0⟩ [] .ret fr A:=
 rDn h (fun w hw a ha=>res_c (E:=E) ha hr ht hg hv (ptcell hw hm hc)) hf nb
theorem run_callm {f:FuncId} {a:Act} {g:Operand} {first cap:Array Value} {xs:List Operand} {ats:Array TypeId} {vs:List Value} (hg:a.eval g = .func (.func f) first cap) (hv:xs.map a.eval = vs) (hc:Callable P f) (dst:Option Nat) (gd:Option (Nat × Bool)) :
  (execOp a.eval ⟨dst,.call ⟨.value g,xs.toArray,ats⟩,ty,pos,after,gd⟩).run P w = .ok (.enter f (first.toList ++ vs ++ cap.toList).toArray) w:=by
 have h1:=run_callFunc_fn hc (first.toList ++ vs ++ cap.toList).toArray w
 have h2:(Array.map a.eval xs.toArray) = vs.toArray:=by simp [hv]
 have h3:first ++ vs.toArray ++ cap = (first.toList ++ vs ++ cap.toList).toArray:=by simp
 simp only [execOp,resolve,h2,hg]
 show (Sem.run P ((Deferred.ofValue (.func (.func f) first cap) vs.toArray).bind fun d=>invoke d.target d.args) w) = _
 simp only [Deferred.ofValue]
 rw [List.append_assoc] at h1 h3 ⊢
 simp [invoke,h3,h1,Sem.bind,bind,pure]
theorem cam {f:FuncId} {g:Operand} {first cap:Array Value} {args:List Operand} {ats:Array TypeId} {vs:List Value} {pre:List Ch} {R:Value→List Ch→Prop} (hf:Tr P f (first.toList ++ vs ++ cap.toList) pre B R) (k:∀ v D,R v D→TO E n X s ops rest ((d,v) :: fr) (D ++ F)) (hg:ev fr g = some (.func (.func f) first cap):=by rfl) (hv:evs fr args = some vs:=by rfl) (hs:Fit A B F:=by exact fitA)
  (hp:∀ c ∈ pre,Has F c:=by (repeat (first | exact has0 | refine has1 hasA ?_));first | done | fail) (hd:Nat.blt d n.n = true:=by rfl):TO E n X s ops (⟨some d,.call ⟨.value g,args.toArray,ats⟩,ty,pos,after,none⟩ :: rest) fr A:=
 ⟨fun w hw=>SO_enter (vs:=first.toList ++ vs ++ cap.toList) (fun _ ha=>run_callm (ha.ev hg) (ha.evs hv) (hf.at hs hp hw).can _ _) (hf.at hs hp hw) (fun v w' ⟨D,hR,hS⟩=>(k v D hR).run w' hS) (fun _ e=>by cases e;exact hd)⟩
end
end Go.Art
namespace Go.Art
open Go Go.Proofs Go.RowKit
def beB:Nat→Int→List Int
 | 0,_=>[]
 | w + 1,n=>n / 256 ^ w % 256 :: beB w n
theorem beB_len:∀ (w:Nat) (n:Int),(beB w n).length = w
 | 0,_=>rfl
 | w + 1,n=>by simp [beB,beB_len w n]
theorem beB_in:∀ (w:Nat) (n:Int),inB (beB w n)
 | 0,_=>inB.nil
 | w + 1,n=>inB.cons (by omega) (beB_in w n)
theorem beB_drop:∀ (k w:Nat) (n:Int),(beB (k + w) n).drop k = beB w n
 | 0,w,n=>by simp
 | k + 1,w,n=>by
  rw [show k + 1 + w = (k + w) + 1 by omega]
  simp only [beB,List.drop_succ_cons]
  exact beB_drop k w n
def bePart (n:Int) (i:Nat):List Int:=List.replicate (8 - i) 0 ++ beB i n
theorem bePart_len (n:Int) {i:Nat} (h:i ≤ 8):(bePart n i).length = 8:=by unfold bePart;rw [List.length_append,List.length_replicate,beB_len];omega
theorem bePart_set (n:Int) {i:Nat} (h:i < 8):(bePart n i).set (7 - i) (n / 256 ^ i % 256) = bePart n (i + 1):=by
 unfold bePart
 rw [List.set_append_left _ _ (by simp;omega)]
 rw [show 8 - i = (7 - i) + 1 by omega,List.replicate_succ',List.set_append_right _ _ (by simp)]
 simp only [List.length_replicate,Nat.sub_self,List.set_cons_zero,List.append_assoc,List.singleton_append]
 rw [show 8 - (i + 1) = 7 - i by omega]
 rfl
section
variable {P:Program} {E:Env P} {n:Sh} {X:Cx} {s:List K} {fr:Fr} {A A':List Ch} {ops:Array Oper} {rest:List Oper} {d m b lo:Nat} {ty t t' el T:TypeId} {pos:String} {after:Array Edge} {x y:Operand} {z:Value} {by_:Nat} {w:World} {k1:IntKind} {cs:List Value}
theorem u8m {m:Int} (k:TO E n X s ops rest ((d,y8 (m % 256)) :: fr) A) (h:evOp E fr (.convert t t' x) = some (.int .u8 (IntKind.u8.wrap m)):=by rfl) (hd:Nat.blt d n.n = true:=by rfl) :
  TO E n X s ops (⟨some d,.convert t t' x,ty,pos,after,none⟩ :: rest) fr A:=TO.val (fun _ _=>by
   have e:IntKind.u8.wrap m = m % 256:=by simp [IntKind.wrap,IntKind.bits,IntKind.signed]
   have:=R_auto (P:=P) (n:=n) (w:=‹World›) (ty:=ty) h;rwa [e] at this) k hd
theorem R_slArrLo {m lo:Nat} (hlo:lo ≤ m) (ht:lk E.und t = some (.array m el)) (he:lk E.inf el = some (z,1,by_)) (hx:ev fr x = some (.pointer (some ⟨b,0,none⟩))) (hy:ev fr y = some (.int k1 (lo:Int))) :
  OpV P n fr (.slice t x (some y) none none) ty w (.slice (some ⟨b,if m = lo then 0 else lo,none⟩) (m - lo) (m - lo)) w:=⟨fun a ha _ _ _ _=>by
 obtain ⟨inf,hi,_,hsz,_⟩:=E.info he
 have hb:(Instr.sliceBound (.int k1 (lo:Int)) m .sliceB).run P w = .ok lo w:=by
  have:(0:Int) ≤ (lo:Int)∧(lo:Int) ≤ (m:Int):=by omega
  simp [Instr.sliceBound,asIntOf,this]
 simp only [execOp,ha.ev hx]
 by_cases e:m = lo
 ·subst e
  simp [Instr.sliceAt,run_underlying (P:=P) (E.un ht) w,Instr.sliceBounds,Instr.sureAddr,sizeOf,typeInfo,hi,hsz,Addr.add,ha.ev hy,hb]
 ·by_cases e2:lo = 0
  ·subst e2
   simp only [Int.natCast_zero] at hb hy
   simp [Instr.sliceAt,run_underlying (P:=P) (E.un ht) w,Instr.sliceBounds,Instr.sureAddr,sizeOf,typeInfo,hi,hsz,Addr.add,ha.ev hy,hb,e]
  ·simp [Instr.sliceAt,run_underlying (P:=P) (E.un ht) w,Instr.sliceBounds,Instr.sureAddr,sizeOf,typeInfo,hi,hsz,Addr.add,ha.ev hy,hb,e,e2]⟩
theorem R_slArrLt {m lo:Nat} {i:Int} (ht:lk E.und t = some (.array m el)) (he:lk E.inf el = some (z,1,by_)) (hx:ev fr x = some (.pointer (some ⟨b,0,none⟩))) (hy:ev fr y = some (.int k1 i)) (hi:i = (lo:Int)) (hlo:lo < m) :
  OpV P n fr (.slice t x (some y) none none) ty w (.slice (some ⟨b,lo,none⟩) (m - lo) (m - lo)) w:=by
 subst hi
 have:=R_slArrLo (P:=P) (n:=n) (ty:=ty) (w:=w) (Nat.le_of_lt hlo) ht he hx hy
 rwa [if_neg (by omega)] at this
theorem R_idxQ {m j:Nat} {i:Int} (ht:lk E.und t = some (.array m el)) (he:lk E.inf el = some (z,1,by_)) (hx:ev fr x = some (.pointer (some ⟨b,0,none⟩))) (hy:ev fr y = some (.int k1 i)) (hi:i = (j:Int)) (hj:j < m) :
  OpV P n fr (.indexAddr t x y) ty w (.pointer (some ⟨b,j,none⟩)) w:=by
 subst hi
 exact R_idxZ ht he hx hy hj
theorem has_ptsl {F:List Ch} {hi cap:Nat} (h:pt b cs T ∈ F) (h1:lo ≤ hi) (h2:hi ≤ cs.length) (h3:hi - lo ≤ cap) (h4:cap ≤ maxLen):Has F (vw (.slice (some ⟨b,lo,none⟩) (hi - lo) cap) ((cs.take hi).drop lo)):=
by
 refine ⟨fun w hw=>?_,fun _ h=>h,fun _ h=>h,fun x hx=>⟨_,h,?_⟩⟩
 ·have hl:((cs.take hi).drop lo).length = hi - lo:=by simp;omega
  refine ⟨_,cap,by rw [hl],by rw [hl];exact h3,h4,fun i u hu=>⟨_,rfl,?_⟩⟩
  rw [Addr.add_lit]
  refine blk_cell (hw.h (pt b cs T) h) ?_
  rw [List.getElem?_drop,List.getElem?_take] at hu
  split at hu
  ·rw [List.getElem?_toArray];exact hu
  ·cases hu
 ·rcases hx with hx | hx | hx
  ·exact hx.elim
  ·exact hx.elim
  ·obtain ⟨_,e⟩:=hx;cases e;exact .inl rfl
end
theorem be_sl (n:Int) {w:Nat} (h:w ≤ 8):((By (bePart n 8)).take 8).drop (8 - w) = By (beB w n):=by
 have e:bePart n 8 = beB 8 n:=by unfold bePart;simp
 rw [e,List.take_of_length_le (by rw [By_len,beB_len];omega),← List.map_drop]
 have:=beB_drop (8 - w) w n
 rw [show 8 - w + w = 8 by omega] at this
 rw [this]
theorem pow_256 (n:Int) (i:Nat):n / 2 ^ (8 * (i:Int)).toNat = n / 256 ^ i:=by
 have e:(8 * (i:Int)).toNat = 8 * i:=by omega
 have e2:(2:Int) ^ (8 * i) = 256 ^ i:=by
  have:=Nat.pow_mul 2 8 i
  have h2:=congrArg (fun x:Nat=>(x:Int)) this
  simpa [Int.natCast_pow] using h2
 rw [e,e2]
end Go.Art
namespace Go.Art
open Go Go.Proofs Go.RowKit
attribute [local irreducible] Fit pt own ro vw mpc lpt vels rels mow lrc dfr
attribute [local irreducible] lmp lme mit velg relg
abbrev TWr:TypeId:=126
abbrev TpW:TypeId:=84
abbrev TErn:TypeId:=34
abbrev wrP (p:Nat) (bv:Value) (mx e:Int) (l:List Int):List Ch:=[pt p [bv,.bool true,I mx,I e] TWr,own TyB bv (By l)]
theorem wnone_tr (p:Nat) (bv x y:Value):Tr Tryz.prog 84 [ptr p] [lpt p [bv,.bool true,x,y] TWr] [] fun v D=>v = .bool false∧D = []:=by
 refine Tr.enter env _ Tryz.func84 (by kernel_rfl) rfl Tryz.ntmps84 rfl (by repeat (first | exact has00 | refine has01 ?_)) fun w0=>?_
 repeat' first|(refine wo ?_;first|(refine ao ?_;first|refine ipe ?_)|refine oa ?_|refine ldl ?_|refine gy ?_)|refine sq ?_|refine rg ?_|refine xc ?_|refine nl ?_|refine rt ?_
 exact r1 ⟨rfl,rfl⟩
theorem NewWriter_tr (mx:Int) (hm:0 ≤ mx∧mx ≤ 100000):Tr Tryz.prog 46 [I mx] [] [] fun v D=>∃ p,v = tup2 (ptr p) (I 0)∧D = wrP p nS mx 0 []:=by
 refine Tr.enter env _ Tryz.func46 (by kernel_rfl) rfl Tryz.ntmps46 rfl (by repeat (first | exact has00 | refine has01 ?_)) fun w0=>?_
 repeat' first|refine bdz ?_|refine bdg ?_|refine bx fun p=>?_|(refine wo ?_;first|(refine ao ?_;first|refine oa ?_)|refine oa ?_|refine gy ?_|(refine gsi (fun hB=>?_) (fun hB=>?_) <;> try (exfalso;omega)))|(refine gc ?_;first|(refine ci (fun hB=>?_) (fun hB=>?_) <;> try (exfalso;omega)))|refine sq ?_|refine rg ?_|refine xc ?_|refine nl ?_|refine sk ?_|refine rt ?_
 refine TX.im (own_nil TyB _) ?_
 rename_i p
 exact r2 ⟨p,rfl,rfl⟩
theorem lay_tr (p:Nat) (bv b:Value) (mx e:Int) (l m:List Int) (hm:(l.length:Int) + m.length ≤ mx∧mx ≤ 100000):Tr Tryz.prog 83 [ptr p,b] [vw b (By m)] (wrP p bv mx e l)
  fun v D=>v = I 0∧∃ bv',bv'.oneCell' = true∧D = wrP p bv' mx e (l ++ m):=by
 refine Tr.enter env _ Tryz.func83 (by kernel_rfl) rfl Tryz.ntmps83 rfl (by repeat (first | exact has00 | refine has01 ?_)) fun w0=>?_
 repeat' first|refine apb fun bv2 hbv=>?_|(refine wo ?_;first|refine oa ?_|refine ld ?_|refine sr ?_)|(refine gc ?_;first|(refine ci (fun hB=>?_) (fun hB=>?_) <;> try (exfalso;omega)))|refine sq ?_|refine rg ?_|refine xc ?_|refine nl ?_|refine sk ?_|refine rt ?_|refine rq ?_|refine nq ?_|(refine wq ?_;first|(refine qao ?_;first|refine qaw ?_|refine qa ?_)|refine qa ?_|refine qld ?_|refine qlnm ?_)
 exact r1 ⟨rfl,_,by assumption,rfl⟩
theorem does1_tr (p e0 q:Nat) (bv:Value) (mx ep er:Int):TrD Tryz.prog 123 [ptr e0,ptr q] [lpt e0 [I er] TErn,lpt q [ptr p] TpW] [pt p [bv,.bool true,I mx,I ep] TWr] fun _ D=>D = [pt p [bv,.bool true,I mx,I er] TWr]:=by
 refine TrD.enter env _ Tryz.func123 (by kernel_rfl) rfl Tryz.ntmps123 rfl (by (repeat (first | exact has00 | refine has01 ?_));first | done | fail) fun w0=>?_
 repeat' first|(refine wo ?_;first|refine oa ?_|refine ldl ?_|refine sr ?_)|refine rg ?_|refine nl ?_
 exact Go.Art.e0 rfl
abbrev WrS (f:FuncId) (cap:Array Value) (pre:List Ch) (p:Nat) (bv:Value) (mx:Int) (l l':List Int):Prop:=Tr Tryz.prog f cap.toList pre (wrP p bv mx 0 l) fun v D=>v = I 0∧∃ bv',bv'.oneCell' = true∧D = wrP p bv' mx 0 l'
theorem does_tr (p:Nat) (bv:Value) (mx:Int) (l l':List Int) (f:FuncId) (cap:Array Value) (pre:List Ch) (hw:WrS f cap pre p bv mx l l') (hp:∀ c ∈ pre,∀ A:List Ch,c ∈ A→Has A c) :
  Tr Tryz.prog 80 [ptr p,.func (.func f) #[] cap] pre (wrP p bv mx 0 l) fun v D=>v = I 0∧∃ bv',bv'.oneCell' = true∧D = wrP p bv' mx 0 l':=by
 refine Tr.enterD env _ Tryz.func80 (by kernel_rfl) rfl Tryz.ntmps80 rfl (fun c hc b=>⟨(hp c hc [c] (by simp)).wr b,(hp c hc [c] (by simp)).rd b⟩) fun w0=>?_
 refine TC.im (B:=pt p [bv,.bool true,I mx,I 0] TWr :: own TyB bv (By l) :: pre) (Im.perm List.perm_append_comm) ?_
 repeat' first|(refine gca ?_;first|(refine ca (wnone_tr p bv _ _) ?_;rintro _ _ ⟨rfl,rfl⟩))|refine bx1 fun q=>?_|refine al fun e0=>?_|refine df ?_|(refine cav (vs:=[]) (cap:=cap) hw ?_ (hp:=fun c hc=>hp c hc _ (by simp [hc]));rintro _ _ ⟨rfl,bv',hb',rfl⟩)|(refine wo ?_;first|(refine ao ?_;first|refine oa ?_)|refine oa ?_|refine ld ?_|refine sr ?_)|(refine gc ?_;first|refine cf ?_)|refine sq ?_|refine rg ?_|refine xc ?_|refine nl ?_|refine sk ?_|refine rt ?_
 refine rD (vs:=[]) (does1_tr p e0 q bv' mx 0 0) ?_
 rintro _ _ rfl
 exact rDc ⟨rfl,bv',hb',rfl⟩
theorem Put1_tr (p c1 c2 c3:Nat) (bv:Value) (mx n:Int) (wd:Nat) (l:List Int) (hw:wd = 1∨wd = 2∨wd = 4∨wd = 8) (hn:0 ≤ n∧n < 256 ^ wd) (hm:(l.length:Int) + wd ≤ mx∧mx ≤ 100000) :
  WrS 81 #[ptr c1,ptr c2,ptr c3] [lpt c1 [I wd] 3,lpt c2 [I n] 3,lpt c3 [ptr p] TpW] p bv mx l (l ++ beB wd n):=by
 have hwt:Tr Tryz.prog 82 [I wd] [] [] fun v D=>v = .bool true∧D = []:=by
  refine Tr.enter env _ Tryz.func82 (by kernel_rfl) rfl Tryz.ntmps82 rfl (by repeat (first | exact has00 | refine has01 ?_)) fun w0=>?_
  rcases hw with rfl | rfl | rfl | rfl
  all_goals
   repeat' first|(refine wo ?_;first|(refine ao ?_;first|refine oa ?_)|refine oa ?_|refine gy ?_|refine gn ?_)|refine sq ?_|refine rg ?_|refine xc ?_|refine nl ?_|refine rt ?_
   exact r1 ⟨rfl,rfl⟩
 have hz:n / 2 ^ (8 * (wd:Int)).toNat = 0:=by rw [pow_256];exact Int.ediv_eq_zero_of_lt hn.1 hn.2
 have hw8:1 ≤ wd∧wd ≤ 8:=by omega
 have hn9:0 ≤ n:=hn.1
 clear hw
 refine Tr.enter env _ Tryz.func81 (by kernel_rfl) rfl Tryz.ntmps81 rfl (by repeat (first | exact has00 | refine has01 ?_)) fun w0=>?_
 repeat' first|(refine gca ?_;first|(refine ca hwt ?_;rintro _ _ ⟨rfl,rfl⟩))|refine al fun q=>?_|(refine wo ?_;first|(refine ao ?_;first|refine aw ?_|refine oa ?_|refine shr ?_)|refine oa ?_|refine ldl ?_|refine gy ?_|(refine gsi (fun hB=>?_) (fun hB=>?_) <;> try (exfalso;omega)))|(refine gc ?_;first|refine cf ?_|(refine ci (fun hB=>?_) (fun hB=>?_) <;> try (exfalso;omega)))|refine sq ?_|refine rg ?_|refine xc ?_|refine nl ?_|refine sk ?_|refine bk ?_|refine xb ?_
 refine TC.loop (ι:=Nat) (fun i=>[(20,I i)]) (fun i=>[pt q (By (bePart n i)) 129]) (fun i=>i ≤ 8) (fun i=>8 - i) 0 [0,1,2,4] (by omega) ?_
 intro i hi
 by_cases h8:i < 8
 ·have hpw:=pow_256 n i
  repeat' first|refine u8m ?_|(refine wo ?_;first|(refine ao ?_;first|refine aw ?_|refine oa ?_|refine shr ?_)|refine oa ?_|refine ldl ?_)|(refine gc ?_;first|(refine ci (fun hB=>?_) (fun hB=>?_) <;> try (exfalso;omega)))|refine sq ?_|refine rg ?_|refine xc ?_|refine nl ?_|refine sk ?_|refine bk ?_
  rw [hpw]
  refine TO.val (v:=.pointer (some ⟨q,7 - i,none⟩)) (fun w _=>by exact R_idxQ (E:=env) rfl rfl rfl rfl (by omega) (by omega)) ?_
  refine sr (b:=q) (j:=7 - i) (cs:=By (bePart n i)) (cs':=By (bePart n (i + 1))) (T:=129) (v:=y8 (n / 256 ^ i % 256)) ?_ (hs:=by rw [← bePart_set n h8,By_set];exact SetAt.of _ _ _ (by rw [By_len,bePart_len n hi];omega))
  repeat' first|(refine wo ?_;first|(refine ao ?_;first|refine aw ?_)|refine oa ?_)|refine rg ?_|refine xc ?_|refine nl ?_|refine xb ?_
  exact lp (i + 1) (by omega)
 ·obtain rfl:i = 8:=by omega
  repeat' first|refine rs (id:=11) (fun w=>w.heap[c3]? = some (.cells [ptr p].toArray TpW (0,0))∧w.heap[c1]? = some (.cells [I wd].toArray 3 (0,0))) ?_ (fun w hw=>⟨lpt_at memA hw,lpt_at memA hw⟩)|(refine wo ?_;first|(refine ao ?_;first|refine oa ?_))|(refine gc ?_;first|refine cf ?_)|refine sq ?_|refine rg ?_|refine xc ?_|refine nl ?_|refine xe ?_
  refine tkl 0 (cs:=[ptr p]) (fun w h=>h.1) ?_
  refine tkl 1 (cs:=[I wd]) (fun w h=>h.2) ?_
  refine tkw 2 ((8 - wd:Nat):Int) ?_
  refine tk 3 (v:=.slice (some ⟨q,8 - wd,none⟩) (8 - (8 - wd)) (8 - (8 - wd))) (hi:=rfl) (fun w h=>by exact R_slArrLt (E:=env) rfl rfl rfl rfl rfl (by omega)) ?_
  refine t1 4 ?_
  have hsl:=be_sl n hw8.2
  refine ca (lay_tr p bv _ mx 0 l (beB wd n) (by rw [beB_len];omega)) ?_ (hp:=has1 (by rw [← hsl];exact has_ptsl memA (by omega) (by rw [By_len,bePart_len n (by omega)];omega) (Nat.le_refl _) (by unfold maxLen;omega)) has0)
  rintro _ _ ⟨rfl,bv2,hb2,rfl⟩
  refine nl ?_
  refine te (fun w hw=>⟨lpt_at memA hw,lpt_at memA hw⟩) ?_
  refine tka 5 ?_
  refine t0 ?_
  repeat' first|refine xc ?_|refine rt ?_
  exact r1 ⟨rfl,bv2,hb2,rfl⟩
theorem Put_tr (p:Nat) (bv:Value) (mx n:Int) (wd:Nat) (l:List Int) (hw:wd = 1∨wd = 2∨wd = 4∨wd = 8) (hn:0 ≤ n∧n < 256 ^ wd) (hm:(l.length:Int) + wd ≤ mx∧mx ≤ 100000) :
  Tr Tryz.prog 48 [ptr p,I wd,I n] [] (wrP p bv mx 0 l) fun v D=>v = I 0∧∃ bv',bv'.oneCell' = true∧D = wrP p bv' mx 0 (l ++ beB wd n):=by
 refine Tr.enter env _ Tryz.func48 (by kernel_rfl) rfl Tryz.ntmps48 rfl (by repeat (first | exact has00 | refine has01 ?_)) fun w0=>?_
 repeat' first|refine bx1 fun c=>?_|(refine wo ?_;first|refine oa ?_|refine ld ?_)|refine sq ?_|refine rg ?_|refine xc ?_|refine nl ?_
 rename_i c3 c1
 refine ca (does_tr p bv mx l (l ++ beB wd n) _ #[ptr c1,ptr c,ptr c3] _ (Put1_tr p c1 c c3 bv mx n wd l hw hn hm) (hpl_lpt (hpl_lpt (hpl_lpt hpl_nil)))) ?_
 rintro _ _ ⟨rfl,bv2,hb2,rfl⟩
 repeat' first|(refine wo ?_;first|refine oa ?_)|refine xc ?_|refine nl ?_|refine rt ?_
 exact r1 ⟨rfl,bv2,hb2,rfl⟩
theorem Raw1_tr (p c1 c2:Nat) (bv b:Value) (mx:Int) (l m:List Int) (hm:(l.length:Int) + m.length ≤ mx∧mx ≤ 100000) :
  WrS 149 #[ptr c1,ptr c2] [lpt c1 [ptr p] TpW,lpt c2 [b] 25,vw b (By m)] p bv mx l (l ++ m):=by
 refine Tr.enter env _ Tryz.func149 (by kernel_rfl) rfl Tryz.ntmps149 rfl (by repeat (first | exact has00 | refine has01 ?_)) fun w0=>?_
 repeat' first|(refine gca ?_;first|(refine ca (lay_tr p bv b mx 0 l m hm) ?_;rintro _ _ ⟨rfl,bv2,hb2,rfl⟩))|(refine wo ?_;first|refine oa ?_|refine ldl ?_)|refine sq ?_|refine rg ?_|refine xc ?_|refine nl ?_|refine rt ?_
 exact r1 ⟨rfl,bv2,hb2,rfl⟩
theorem Raw_tr (p:Nat) (bv b:Value) (mx:Int) (l m:List Int) (hb1:b.oneCell' = true) (hm:(l.length:Int) + m.length ≤ mx∧mx ≤ 100000) :
  Tr Tryz.prog 118 [ptr p,b] [vw b (By m)] (wrP p bv mx 0 l) fun v D=>v = I 0∧∃ bv',bv'.oneCell' = true∧D = wrP p bv' mx 0 (l ++ m):=by
 refine Tr.enter env _ Tryz.func118 (by kernel_rfl) rfl Tryz.ntmps118 rfl (by repeat (first | exact has00 | refine has01 ?_)) fun w0=>?_
 repeat' first|refine bx1 fun c=>?_|(refine wo ?_;first|refine oa ?_|refine ld ?_)|refine sq ?_|refine rg ?_|refine xc ?_|refine nl ?_
 rename_i c1
 refine ca (does_tr p bv mx l (l ++ m) _ #[ptr c1,ptr c] _ (Raw1_tr p c1 c bv b mx l m hm) (hpl_lpt (hpl_lpt (hpl_vw hpl_nil)))) ?_
 rintro _ _ ⟨rfl,bv2,hb2,rfl⟩
 repeat' first|(refine wo ?_;first|refine oa ?_)|refine xc ?_|refine nl ?_|refine rt ?_
 exact r1 ⟨rfl,bv2,hb2,rfl⟩
theorem Bytes_tr (p:Nat) (bv:Value) (mx:Int) (l:List Int) (hm:l.length ≤ 1099511627776):Tr Tryz.prog 49 [ptr p] [lpt p [bv,.bool true,I mx,I 0] TWr,vw bv (By l)] []
  fun v D=>∃ o,v = tup2 o (I 0)∧o.oneCell' = true∧D = [own TyB o (By l)]:=by
 refine Tr.enter env _ Tryz.func49 (by kernel_rfl) rfl Tryz.ntmps49 rfl (by repeat (first | exact has00 | refine has01 ?_)) fun w0=>?_
 repeat' first|(refine gca ?_;first|(refine ca (wnone_tr p bv _ _) ?_;rintro _ _ ⟨rfl,rfl⟩)|(refine ca (Clone_tr bv l hm) ?_;rintro o _ ⟨ho,rfl⟩))|(refine wo ?_;first|(refine ao ?_;first|refine oa ?_)|refine oa ?_|refine ldl ?_)|(refine gc ?_;first|refine cf ?_)|refine sq ?_|refine rg ?_|refine xc ?_|refine nl ?_|refine sk ?_|refine bk ?_|refine rt ?_|refine xb ?_
 exact r2 ⟨o,rfl,ho,rfl⟩
end Go.Art
namespace Go.Art
open Go Go.Proofs Go.RowKit
section
variable {P:Program} {E:Env P} {n:Sh} {X:Cx} {s:List K} {fr:Fr} {A A' G D:List Ch} {ops:Array Oper} {rest:List Oper} {d:Nat} {ty t t' T:TypeId} {pos:String} {after:Array Edge} {x y:Operand} {w:World} {p q:Int}
theorem res_a1 {fn:Func} {a:Act} (ha:Holds n a fr) {t:Nat} {ty T:TypeId} {dt:TypeDesc} {z:Value} {sz by_ b:Nat} {cs vs:List Value} (hr:fn.results = #[.cell t ty]) (ht:lk E.und ty = some dt) (hg:aggB dt = true) (hi:lk E.inf ty = some (z,sz,by_)) (h1:get fr t = some (ptr b))
  (hb:w.heap[b]? = some (.cells cs.toArray T (0,0))) (hv:cs.take sz = vs) (hl:vs.length = sz):(results fn a.tmps).run P w = .ok (.agg vs.toArray) w:=by
 obtain ⟨inf,g1,_,g2,_⟩:=E.info hi
 have h3:=run_loadCells_list (P:=P) w ⟨b,0,none⟩ vs (fun m u hm=>by
  rw [Addr.add_lit]
  refine blk_cell hb ?_
  rw [← hv,List.getElem?_take] at hm
  split at hm
  ·simpa using hm
  ·cases hm)
 rw [hl] at h3
 have e1:a.tmps[t]?.getD undef = ptr b:=by have:=ha.slot t _ h1;simpa using this
 simp only [results,hr]
 simp [e1,asAddr,loadVar,aggB_t (w:=w) ht hg,sizeOf,typeInfo,g1,g2,h3]
theorem rca1 {w0:World} {A0:List Ch} {R':Value→List Ch→Prop} {fn:Func} {t nn:Nat} {ty T:TypeId} {dt:TypeDesc} {z:Value} {sz by_ b:Nat} {cs vs:List Value} (h:R' (.agg vs.toArray) D) (hr:fn.results = #[.cell t ty]:=by rfl) (ht:lk E.und ty = some dt:=by rfl) (hg:aggB dt = true:=by rfl) (hi:lk E.inf ty = some (z,sz,by_):=by rfl)
  (hv:get fr t = some (ptr b):=by rfl) (hm:pt b cs T ∈ A:=by exact memA) (hcs:cs.take sz = vs:=by rfl) (hl:vs.length = sz:=by rfl) (hf:Fit A D G:=by exact fitA) (nb:∀ c ∈ D,∀ b,¬ c.bd b:=by (repeat (first | exact nb0 | refine nb1 ?_));first | done | fail) :
  TX E ⟨nn,[],none⟩ ⟨bodyPost P fn (RetP (PR w0 A0 R')),w0,A0⟩ [] .ret fr A:=⟨fun w hw=>⟨fun a ha=>
 bodyPost_ret (res_a1 (E:=E) ha hr ht hg hi hv (hw.mem hm) hcs hl) (ha.defers.trans rfl) ⟨_,rfl,PR.mk h hw hf nb⟩⟩⟩
def clipV (v:Value) (n:Nat):Value:=match v with
 | .slice o _ _=>.slice o n n
 | v=>v
theorem R_clip {el:TypeId} {z v:Value} {by_:Nat} {xs:List Value} {y1 y2:Operand} {k1 k2:IntKind} (ht:lk E.und t = some (.slice el)) (he:lk E.inf el = some (z,1,by_)) (hx:ev fr x = some v) (h1:ev fr y1 = some (.int k1 (xs.length:Int))) (h2:ev fr y2 = some (.int k2 (xs.length:Int))) (hs:Sl w v xs) :
  OpV P n fr (.slice t x none (some y1) (some y2)) ty w (clipV v xs.length) w:=⟨fun a ha _ _ _ _=>by
 obtain ⟨inf,hi,_,hsz,_⟩:=E.info he
 obtain ⟨o,c,rfl,g1,g2,g3⟩:=hs
 have b1:∀ (k:IntKind) (m:Nat) (cd:BoundsCode),xs.length ≤ m→(Instr.sliceBound (.int k (xs.length:Int)) m cd).run P w = .ok xs.length w:=fun k m cd hm=>by
  have:(0:Int) ≤ (xs.length:Int)∧(xs.length:Int) ≤ (m:Int):=by omega
  simp [Instr.sliceBound,asIntOf,this]
 simp only [execOp,ha.ev hx]
 simp only [Option.map,ha.ev h1,ha.ev h2]
 cases o with
 | none=>simp [Instr.sliceAt,Instr.slice,run_underlying (P:=P) (E.un ht) w,Instr.sliceBounds,sizeOf,typeInfo,hi,hsz,b1 _ _ _ g1,b1 _ _ _ (Nat.le_refl _),clipV]
 | some ad=>
  have e:ad.add 0 = ad:=by unfold Addr.add;simp
  simp [Instr.sliceAt,Instr.slice,run_underlying (P:=P) (E.un ht) w,Instr.sliceBounds,sizeOf,typeInfo,hi,hsz,b1 _ _ _ g1,b1 _ _ _ (Nat.le_refl _),clipV,e]⟩
theorem im_clip (e:TypeId) (v:Value) (xs:List Value):Im1 (own e v xs) (own e (clipV v xs.length) xs):=by
 have hb:(clipV v xs.length).ownBlock = v.ownBlock:=by cases v <;> first | rfl | (rename_i a _ _;cases a <;> rfl)
 refine ⟨fun w h=>?_,fun b h=>?_,fun _ h=>h.elim,fun b h=>?_⟩
 ·rcases h with ⟨rfl,rfl⟩ | ⟨b,o,cap,cur,rfl,h1,h2,h3,h4,h5⟩
  ·exact .inl ⟨rfl,rfl⟩
  ·exact .inr ⟨b,o,xs.length,cur,rfl,h1,Nat.le_refl _,by omega,by omega,h5⟩
 ·show v.ownBlock = some b;rw [← hb];exact h
 ·rcases h with h | h | h
  ·exact .inl (by show v.ownBlock = some b;rw [← hb];exact h)
  ·exact h.elim
  ·exact h.elim
theorem clp {el e:TypeId} {z v:Value} {by_:Nat} {l:List Int} {y1 y2:Operand} {k1 k2:IntKind} (k:TO E n X s ops rest ((d,clipV v l.length) :: fr) (own e (clipV v l.length) (By l) :: A')) (hx:ev fr x = some v:=by rfl) (hm:Tk (own e v (By l)) A A':=by exact tkA) (h1:ev fr y1 = some (.int k1 (l.length:Int)):=by rfl) (h2:ev fr y2 = some (.int k2 (l.length:Int)):=by rfl)
  (ht:lk E.und t = some (.slice el):=by rfl) (he:lk E.inf el = some (z,1,by_):=by rfl) (hd:Nat.blt d n.n = true:=by rfl):TO E n X s ops (⟨some d,.slice t x none (some y1) (some y2),ty,pos,after,none⟩ :: rest) fr A:=by
 have hl:=By_len l
 refine TO.im hm (TO.val (v:=clipV v l.length) (fun w hw=>?_) (TO.im (Im1.im (by have:=im_clip e v (By l);rwa [hl] at this) A') k) hd)
 have h3:OwnO w e v (By l):=hw.h (own e v (By l)) (List.Mem.head _)
 rw [← hl] at h1 h2 ⊢
 exact R_clip ht he hx h1 h2 h3.sl
end
theorem Sl.clip {w:World} {v:Value} {xs:List Value} (h:Sl w v xs):Sl w (clipV v xs.length) xs:=by
 obtain ⟨o,c,rfl,g1,g2,g3⟩:=h
 exact ⟨o,xs.length,rfl,Nat.le_refl _,by omega,g3⟩
def slCl (v:Value) (lo hi:Nat):Value:=clipV (slSub v lo hi) (hi - lo)
theorem slCl_sl {w:World} {v:Value} {xs:List Value} {lo hi:Nat} (h:Sl w v xs) (h1:lo ≤ hi) (h2:hi ≤ xs.length):Sl w (slCl v lo hi) ((xs.take hi).drop lo):=by
 have:=(h.sub h1 h2).clip
 rwa [show ((xs.take hi).drop lo).length = hi - lo by simp;omega] at this
theorem slCl_block (v:Value) (lo hi:Nat):(slCl v lo hi).ownBlock = v.ownBlock:=by
 rw [← slSub_block v lo hi,slCl]
 cases slSub v lo hi <;> first | rfl | (rename_i a _ _;cases a <;> rfl)
theorem has_cl {F:List Ch} {v:Value} {xs:List Value} {lo hi:Nat} (h:Has F (vw v xs)) (h1:lo < hi) (h2:hi ≤ xs.length):Has F (vw (slCl v lo hi) ((xs.take hi).drop lo)):=
 ⟨fun w hw=>slCl_sl (h.P w hw) (by omega) h2,fun _ h=>h,fun _ h=>h,fun b hb=>h.ft b (by
  rcases hb with hb | hb | hb
  ·exact hb.elim
  ·exact hb.elim
  ·refine .inr (.inr ⟨fun e=>hb.1 (by subst e;simp),?_⟩)
   rw [← slCl_block v lo hi];exact hb.2)⟩
section
variable {P:Program} {E:Env P} {n:Sh} {X:Cx} {s:List K} {fr:Fr} {A A':List Ch} {ops:Array Oper} {rest:List Oper} {d:Nat} {ty t t':TypeId} {pos:String} {after:Array Edge} {x y y2 y3:Operand} {v u z:Value} {by_:Nat} {xs:List Value} {w:World} {lo hi:Int} {k1 k2 k3:IntKind}
theorem R_sl3 {e:TypeId} (ht:lk E.und t = some (.slice e)) (he:lk E.inf e = some (z,1,by_)) (hx:ev fr x = some v) (h1:ev fr y = some (.int k1 lo)) (h2:ev fr y2 = some (.int k2 hi)) (h3:ev fr y3 = some (.int k3 hi)) (hS:Sl w v xs) (hb:0 ≤ lo∧lo < hi∧hi ≤ xs.length) :
  OpV P n fr (.slice t x (some y) (some y2) (some y3)) ty w (slCl v lo.toNat hi.toNat) w:=⟨fun a ha _ _ _ _=>by
 obtain ⟨inf,hi',_,hsz,_⟩:=E.info he
 obtain ⟨o,c,rfl,g1,g2,g3⟩:=hS
 obtain ⟨p,rfl⟩ : ∃ p:Nat,lo = p:=⟨lo.toNat,by omega⟩
 obtain ⟨q,rfl⟩ : ∃ q:Nat,hi = q:=⟨hi.toNat,by omega⟩
 obtain ⟨r,e0,_⟩:=g3 p _ (List.getElem?_eq_getElem (by omega))
 subst e0
 have b1:∀ (k:IntKind) (i m:Nat) (cd:BoundsCode),i ≤ m→(Instr.sliceBound (.int k (i:Int)) m cd).run P w = .ok i w:=fun k i m cd hm=>by
  have:(0:Int) ≤ (i:Int)∧(i:Int) ≤ (m:Int):=by omega
  simp [Instr.sliceBound,asIntOf,this]
 have hne:¬ c = p:=by omega
 have hne2:¬ q = p:=by omega
 simp only [execOp,ha.ev hx]
 simp only [Option.map,ha.ev h1,ha.ev h2,ha.ev h3]
 simp [Instr.sliceAt,Instr.slice,run_underlying (P:=P) (E.un ht) w,Instr.sliceBounds,sizeOf,typeInfo,hi',hsz,b1 _ q c _ (by omega),b1 _ q q _ (Nat.le_refl _),b1 _ p q _ (by omega),slCl,clipV,slSub,hne,hne2]⟩
theorem sl3 {el:TypeId} (k:TO E n X s ops rest ((d,slCl v lo.toNat hi.toNat) :: fr) A) (hx:ev fr x = some v:=by rfl) (h1:ev fr y = some (.int k1 lo):=by rfl) (h2:ev fr y2 = some (.int k2 hi):=by rfl) (h3:ev fr y3 = some (.int k3 hi):=by rfl) (hs:Has A (vw v xs):=by exact hasA) (hb:0 ≤ lo∧lo < hi∧hi ≤ xs.length:=by omega)
  (ht:lk E.und t = some (.slice el):=by rfl) (he:lk E.inf el = some (z,1,by_):=by rfl) (hd:Nat.blt d n.n = true:=by rfl):TO E n X s ops (⟨some d,.slice t x (some y) (some y2) (some y3),ty,pos,after,none⟩ :: rest) fr A:=
 TO.val (fun _ h=>R_sl3 ht he hx h1 h2 h3 (has_sl h hs) hb) k hd
end
end Go.Art
namespace Go.Art
open Go Go.Proofs Go.RowKit
abbrev c32 (m:Int):Value:=.int .u32 m
def x32 (p q:Int):Int:=((BitVec.ofInt 32 p ^^^ BitVec.ofInt 32 q).toNat:Int)
def a32 (p q:Int):Int:=((BitVec.ofInt 32 p &&& BitVec.ofInt 32 q).toNat:Int)
theorem wrap_u32 (n:Int):IntKind.u32.wrap n = ((BitVec.ofInt 32 n).toNat:Int):=by
 have:IntKind.u32.wrap n = n % 4294967296:=by simp [IntKind.wrap,IntKind.bits,IntKind.signed]
 rw [this,BitVec.toNat_ofInt];omega
theorem ofInt32 (p:BitVec 32):BitVec.ofInt 32 (p.toNat:Int) = p:=by
 rw [BitVec.ofInt_natCast];exact BitVec.ofNat_toNat _ _ |>.trans (by simp)
theorem x32_pos (p q:Int):0 ≤ x32 p q:=by unfold x32;omega
def stepE (x:Int):Int:=x32 (x / 2) (IntKind.u32.wrap (3988292384 * a32 x 1))
def stepN:Nat→Int→Int
 | 0,x=>x
 | n + 1,x=>stepE (stepN n x)
def tabE (i:Nat):Int:=stepN 8 (IntKind.u32.wrap i)
theorem stepN_pos {x:Int} (h:0 ≤ x):∀ n,0 ≤ stepN n x
 | 0=>h
 | _ + 1=>x32_pos _ _
def tabP (k:Nat):List Value:=(List.range 256).map fun i=>c32 (if i < k then tabE i else 0)
theorem tabP_len (k:Nat):(tabP k).length = 256:=by unfold tabP;rw [List.length_map,List.length_range]
theorem tabP_get (k:Nat) {i:Nat} (h:i < 256):(tabP k)[i]? = some (c32 (if i < k then tabE i else 0)):=by unfold tabP;rw [List.getElem?_map,List.getElem?_range h];rfl
theorem tabP_zero:tabP 0 = List.replicate 256 (c32 0):=by
 refine List.ext_getElem? fun i=>?_
 by_cases h:i < 256
 ·rw [tabP_get 0 h,if_neg (Nat.not_lt_zero _),List.getElem?_replicate,if_pos h]
 ·rw [List.getElem?_eq_none (by rw [tabP_len];omega),List.getElem?_eq_none (by rw [List.length_replicate];omega)]
theorem tabP_set {k:Nat} (h:k < 256):(tabP k).set k (c32 (tabE k)) = tabP (k + 1):=by
 refine List.ext_getElem? fun i=>?_
 rw [List.getElem?_set]
 by_cases h2:i < 256
 ·rw [tabP_get (k + 1) h2,tabP_get k h2]
  by_cases e:k = i
  ·subst e;rw [if_pos rfl,if_pos (by rw [tabP_len];exact h),if_pos (by omega)]
  ·rw [if_neg e]
   by_cases e2:i < k
   ·rw [if_pos e2,if_pos (by omega)]
   ·rw [if_neg e2,if_neg (by omega)]
 ·rw [List.getElem?_eq_none (by rw [tabP_len];omega),List.getElem?_eq_none (by rw [tabP_len];omega),if_neg (by omega)]
theorem tabP_all {i:Nat} (h:i < 256):(tabP 256)[i]? = some (c32 (tabE i)):=by rw [tabP_get 256 h,if_pos h]
theorem tabP_one (k:Nat):∀ v ∈ tabP k,v.oneCell' = true:=fun v hv=>by
 unfold tabP at hv
 obtain ⟨i,_,rfl⟩:=List.mem_map.1 hv
 rfl
def crcS (x c:Int):Int:=x32 (x / 2 ^ 8) (tabE (bxr (x % 256) c).toNat)
def crcN (l:List Int):Int:=l.foldl crcS 4294967295
def crcF (l:List Int):Int:=x32 4294967295 (crcN l)
theorem crcF_pos (l:List Int):0 ≤ crcF l:=x32_pos _ _
theorem crcN_snoc (l:List Int) (c:Int):crcN (l ++ [c]) = crcS (crcN l) c:=by unfold crcN;rw [List.foldl_append];rfl
theorem crcN_pos (l:List Int):0 ≤ crcN l:=by
 rcases List.eq_nil_or_concat l with rfl | ⟨m,c,rfl⟩
 ·decide
 ·rw [List.concat_eq_append,crcN_snoc];exact x32_pos _ _
def crcB (l:List Int):List Int:=(List.range 4).map fun i=>crcF l / 256 ^ i % 256
def sealF (l:List Int):List Int:=l ++ crcB l
theorem crcB_len (l:List Int):(crcB l).length = 4:=by unfold crcB;simp
theorem crcB_in (l:List Int):inB (crcB l):=fun x hx=>by
 unfold crcB at hx
 obtain ⟨i,_,rfl⟩:=List.mem_map.1 hx
 omega
theorem sealF_in {l:List Int} (h:inB l):inB (sealF l):=h.app (crcB_in l)
section
variable {P:Program} {E:Env P} {n:Sh} {X:Cx} {s:List K} {fr:Fr} {A A' G D:List Ch} {ops:Array Oper} {rest:List Oper} {d:Nat} {ty t t' T:TypeId} {pos:String} {after:Array Edge} {x y:Operand} {w:World} {p q:Int}
theorem R_x32 (hx:ev fr x = some (c32 p)) (hy:ev fr y = some (c32 q)):OpV P n fr (.binOp .xor t x y t') ty w (c32 (x32 p q)) w:=R_bin hx hy (by
 simp only [binOp,Op.intBits]
 show Result.ok (Value.int .u32 (IntKind.u32.wrap (((BitVec.ofInt 32 p) ^^^ (BitVec.ofInt 32 q)).toNat:Int))) w = _
 rw [wrap_u32,ofInt32];rfl)
theorem R_a32 (hx:ev fr x = some (c32 p)) (hy:ev fr y = some (c32 q)):OpV P n fr (.binOp .and t x y t') ty w (c32 (a32 p q)) w:=R_bin hx hy (by
 simp only [binOp,Op.intBits]
 show Result.ok (Value.int .u32 (IntKind.u32.wrap (((BitVec.ofInt 32 p) &&& (BitVec.ofInt 32 q)).toNat:Int))) w = _
 rw [wrap_u32,ofInt32];rfl)
theorem R_n32 (hx:ev fr x = some (c32 p)):OpV P n fr (.unOp .xor t x) ty w (c32 (x32 4294967295 p)) w:=⟨fun a ha _ _ _ _=>by
 simp only [execOp,ha.ev hx]
 simp only [Op.unary,Op.intBits]
 show Result.ok (Next.value (Value.int .u32 (IntKind.u32.wrap (((BitVec.ofInt 32 4294967295) ^^^ (BitVec.ofInt 32 p)).toNat:Int)))) w = _
 rw [wrap_u32,ofInt32];rfl⟩
theorem x3 (k:TO E n X s ops rest ((d,c32 (x32 p q)) :: fr) A) (hx:ev fr x = some (c32 p):=by rfl) (hy:ev fr y = some (c32 q):=by rfl) (hd:Nat.blt d n.n = true:=by rfl):TO E n X s ops (⟨some d,.binOp .xor t x y t',ty,pos,after,none⟩ :: rest) fr A:=TO.val (fun _ _=>R_x32 hx hy) k hd
theorem x8 (k:TO E n X s ops rest ((d,y8 (bxr p q)) :: fr) A) (hx:ev fr x = some (y8 p):=by rfl) (hy:ev fr y = some (y8 q):=by rfl) (hd:Nat.blt d n.n = true:=by rfl):TO E n X s ops (⟨some d,.binOp .xor t x y t',ty,pos,after,none⟩ :: rest) fr A:=TO.val (fun _ _=>R_bxr hx hy) k hd
theorem a3 (k:TO E n X s ops rest ((d,c32 (a32 p q)) :: fr) A) (hx:ev fr x = some (c32 p):=by rfl) (hy:ev fr y = some (c32 q):=by rfl) (hd:Nat.blt d n.n = true:=by rfl):TO E n X s ops (⟨some d,.binOp .and t x y t',ty,pos,after,none⟩ :: rest) fr A:=TO.val (fun _ _=>R_a32 hx hy) k hd
theorem n3 (k:TO E n X s ops rest ((d,c32 (x32 4294967295 p)) :: fr) A) (hx:ev fr x = some (c32 p):=by rfl) (hd:Nat.blt d n.n = true:=by rfl):TO E n X s ops (⟨some d,.unOp .xor t x,ty,pos,after,none⟩ :: rest) fr A:=TO.val (fun _ _=>R_n32 hx) k hd
theorem ixq {b m by_:Nat} {el:TypeId} {z:Value} {k1:IntKind} {i:Int} (j:Nat) (k:TO E n X s ops rest ((d,.pointer (some ⟨b,j,none⟩)) :: fr) A) (hx:ev fr x = some (.pointer (some ⟨b,0,none⟩)):=by rfl) (hy:ev fr y = some (.int k1 i):=by rfl) (hi:i = (j:Int):=by omega) (ht:lk E.und t = some (.array m el):=by rfl) (he:lk E.inf el = some (z,1,by_):=by rfl) (hj:j < m:=by omega)
  (hd:Nat.blt d n.n = true:=by rfl):TO E n X s ops (⟨some d,.indexAddr t x y,ty,pos,after,none⟩ :: rest) fr A:=TO.val (fun _ _=>R_idxQ ht he hx hy hi hj) k hd
end
attribute [local irreducible] Fit pt own ro vw mpc lpt vels rels mow lrc dfr
attribute [local irreducible] lmp lme mit velg relg
abbrev TTab:TypeId:=218
set_option maxRecDepth 10000 in
theorem Table_tr:Tr Tryz.prog 172 [] [] [] fun v D=>v = .agg (tabP 256).toArray∧D = []:=by
 refine Tr.enter env _ Tryz.func172 (by kernel_rfl) rfl Tryz.ntmps172 rfl (by repeat (first | exact has00 | refine has01 ?_)) fun w0=>?_
 repeat' first|refine al fun b=>?_|(refine wo ?_;first|refine oa ?_)|refine sq ?_|refine rg ?_|refine xc ?_|refine nl ?_|refine bk ?_
 refine TC.im (B:=[pt b (tabP 0) TTab]) (by rw [tabP_zero];exact Im.refl _) ?_
 refine TC.loop (ι:=Nat) (fun i=>[(3,I i)]) (fun i=>[pt b (tabP i) TTab]) (fun i=>i ≤ 256) (fun i=>256 - i) 0 [0] (by omega) ?_
 intro i hi
 by_cases h:i < 256
 ·repeat' first|(refine wo ?_;first|(refine ao ?_;first|refine oa ?_)|refine oa ?_)|(refine gc ?_;first|(refine ci (fun hB=>?_) (fun hB=>?_) <;> try (exfalso;omega)))|refine sq ?_|refine rg ?_|refine xc ?_|refine nl ?_|refine sk ?_|refine bk ?_
  refine TC.loop (ι:=Nat) (fun j=>[(8,I j),(2,c32 (stepN j (IntKind.u32.wrap i)))]) (fun j=>[pt b (tabP i) TTab]) (fun j=>j ≤ 8) (fun j=>8 - j) 0 [0,1,3] (by omega) ?_
  intro j hj
  have hp:=stepN_pos (x:=IntKind.u32.wrap i) (by rw [wrap_u32];omega) j
  by_cases h8:j < 8
  ·repeat' first|refine x3 ?_|refine a3 ?_|(refine wo ?_;first|(refine ao ?_;first|refine aw ?_|refine oa ?_|refine shr1 ?_)|refine oa ?_)|(refine gc ?_;first|(refine ci (fun hB=>?_) (fun hB=>?_) <;> try (exfalso;omega)))|refine sq ?_|refine rg ?_|refine xc ?_|refine nl ?_|refine sk ?_|refine bk ?_|refine xb ?_
   exact lp (j + 1) (by omega)
  ·obtain rfl:j = 8:=by omega
   repeat' first|refine ixq i ?_|(refine wo ?_;first|(refine ao ?_;first|refine oa ?_)|refine oa ?_)|(refine gc ?_;first|refine cf ?_)|refine sq ?_|refine rg ?_|refine xc ?_|refine nl ?_|refine xe ?_
   refine sr (b:=b) (j:=i) (cs:=tabP i) (cs':=tabP (i + 1)) (T:=TTab) (v:=c32 (tabE i)) ?_ (hs:=by rw [← tabP_set h];exact SetAt.of _ _ _ (by rw [tabP_len];exact h))
   repeat' first|(refine wo ?_;first|(refine ao ?_;first|refine aw ?_)|refine oa ?_)|refine rg ?_|refine xc ?_|refine nl ?_|refine xb ?_
   exact lp (i + 1) (by omega)
 ·have hi6:i = 256:=by omega
  repeat' first|(refine wo ?_;first|(refine ao ?_;first|refine oa ?_))|(refine gc ?_;first|(refine ci (fun hB=>?_) (fun hB=>?_) <;> try (exfalso;omega)))|refine sq ?_|refine rg ?_|refine xc ?_|refine nl ?_|refine xe ?_
  rw [hi6]
  refine lda (b:=b) (j:=0) (cs:=tabP 256) (T:=TTab) (vs:=tabP 256) ?_ (hv:=by rw [List.drop_zero,List.take_of_length_le (Nat.le_of_eq (tabP_len _))]) (hl:=tabP_len _)
  refine sra (b:=b) (j:=0) (cs:=tabP 256) (cs':=tabP 256) (T:=TTab) (vs:=tabP 256) ?_ (hl:=tabP_len _) (h1:=tabP_one _) (hj:=Nat.le_of_eq (by rw [tabP_len])) (hs:=by rw [List.take_zero,List.drop_eq_nil_of_le (Nat.le_of_eq (by rw [tabP_len])),List.append_nil,List.nil_append])
  repeat' first|refine xc ?_|refine nl ?_|refine rt ?_
  exact rca1 (b:=b) (cs:=tabP 256) (vs:=tabP 256) ⟨rfl,rfl⟩ (hcs:=List.take_of_length_le (Nat.le_of_eq (tabP_len _))) (hl:=tabP_len _)
theorem first_tr (s:Value):Tr Tryz.prog 161 [s] [vw s [nP]] [] fun v D=>∃ b,v = ptr b∧D = [pt b (tabP 256) TTab]:=by
 refine Tr.enter env _ Tryz.func161 (by kernel_rfl) rfl Tryz.ntmps161 rfl (by repeat (first | exact has00 | refine has01 ?_)) fun w0=>?_
 repeat' first|(refine wo ?_;first|refine oa ?_|refine ln ?_)|refine sq ?_|refine rg ?_|refine xc ?_|refine nl ?_|refine bk ?_
 refine TC.loop (ι:=Nat) (fun i=>[(8,I i)]) (fun _=>[]) (fun i=>i ≤ 1) (fun i=>1 - i) 0 [6,7] (by omega) ?_
 intro i hi
 by_cases h:i < 1
 ·obtain rfl:i = 0:=by omega
  repeat' first|(refine wo ?_;first|(refine ao ?_;first|refine aw ?_|refine oa ?_|refine ipn ?_)|refine oa ?_|refine lv ?_|refine ixn ?_)|(refine gc ?_;first|refine ct ?_|refine cf ?_)|refine sq ?_|refine rg ?_|refine xc ?_|refine nl ?_|refine sk ?_|refine bk ?_|refine xb ?_
  exact lp 1 (by omega)
 ·have h1 : [nP].length = 1:=rfl
  repeat' first|(refine gca ?_;first|(refine ca Table_tr ?_;rintro _ _ ⟨rfl,rfl⟩))|refine al fun b=>?_|(refine wo ?_;first|(refine ao ?_;first|refine oa ?_))|(refine gc ?_;first|(refine ci (fun hB=>?_) (fun hB=>?_) <;> try (exfalso;omega)))|refine sq ?_|refine rg ?_|refine xc ?_|refine nl ?_|refine xe ?_
  refine sra (b:=b) (j:=0) (cs':=tabP 256) (T:=TTab) (vs:=tabP 256) ?_ (hl:=tabP_len _) (h1:=tabP_one _) (hj:=by rw [show (Value.agg (Array.replicate 256 (c32 0))).cells.toList = List.replicate 256 (c32 0) from by simp [Value.cells]];exact Nat.le_of_eq (by rw [List.length_replicate])) (hs:=by
   rw [show (Value.agg (Array.replicate 256 (c32 0))).cells.toList = List.replicate 256 (c32 0) from by simp [Value.cells]]
   rw [List.take_zero,List.drop_eq_nil_of_le (Nat.le_of_eq (by rw [List.length_replicate])),List.append_nil,List.nil_append])
  repeat' first|(refine wo ?_;first|refine oa ?_)|refine sq ?_|refine rg ?_|refine xc ?_|refine nl ?_|refine rt ?_
  exact r1 ⟨b,rfl,rfl⟩
theorem Sum_crc (b:Value) (l:List Int):Tr Tryz.prog 150 [nP,b] [vw b (By l)] [] fun v D=>v = c32 (crcF l)∧D = []:=by
 refine Tr.enter env _ Tryz.func150 (by kernel_rfl) rfl Tryz.ntmps150 rfl (by repeat (first | exact has00 | refine has01 ?_)) fun w0=>?_
 refine TC.fact (p:=l.length ≤ 9223372036854775807) (fun w hw=>by have:=(has_sl hw (v:=b) (xs:=By l) hasA).len;rwa [By_len] at this) fun hln=>?_
 repeat' first|(refine gca ?_;first|(refine ca (first_tr _) ?_;rintro _ _ ⟨p,rfl,rfl⟩))|refine slw fun v hv=>?_|(refine wo ?_;first|refine oa ?_|refine lnm ?_)|refine sq ?_|refine rg ?_|refine xc ?_|refine nl ?_|refine bk ?_
 refine TC.loop (ι:=Nat) (fun i=>[(13,I i),(5,c32 (crcN (l.take i)))]) (fun i=>[pt p (tabP 256) TTab]) (fun i=>i ≤ l.length) (fun i=>l.length - i) 0 [0,11,12] (by omega) ?_
 intro i hi
 have hp:=crcN_pos (l.take i)
 by_cases h:i < l.length
 ·have ht:crcN (l.take (i + 1)) = crcS (crcN (l.take i)) (l.getD i 0):=by rw [take_succ' h 0,crcN_snoc]
  generalize hx2:crcN (l.take (i + 1)) = x2 at *
  generalize crcN (l.take i) = x1 at *
  have hb:=bxr_range (x1 % 256) (l.getD i 0)
  obtain ⟨k,hk,hk2⟩ : ∃ k:Nat,bxr (x1 % 256) (l.getD i 0) = (k:Int)∧k < 256:=⟨_,(Int.toNat_of_nonneg hb.1).symm,by omega⟩
  have ht2:x2 = x32 (x1 / 2 ^ 8) (tabE k):=by rw [ht,crcS,hk];rfl
  repeat' first|refine x3 ?_|refine x8 ?_|refine u8m ?_|refine shr (c:=8) ?_|refine ixq k ?_|refine ld (b:=p) (cs:=tabP 256) (T:=TTab) (v:=c32 (tabE k)) ?_ (hj:=tabP_all hk2)|(refine wo ?_;first|(refine ao ?_;first|refine aw ?_|refine oa ?_)|refine oa ?_|refine ixmn ?_|refine lb ?_)|(refine gc ?_;first|(refine ci (fun hB=>?_) (fun hB=>?_) <;> try (exfalso;omega)))|refine sq ?_|refine rg ?_|refine xc ?_|refine nl ?_|refine sk ?_|refine bk ?_|refine xb ?_
  exact lp (i + 1) (by omega) (hs:=by rw [hx2,ht2];(repeat (refine Sub.cons rfl (by first | rfl | go_num) ?_));exact Sub.nil)
 ·have hl:l.take i = l:=List.take_of_length_le (by omega)
  rw [hl]
  repeat' first|refine n3 ?_|(refine wo ?_;first|(refine ao ?_;first|refine oa ?_)|refine oa ?_)|(refine gc ?_;first|(refine ci (fun hB=>?_) (fun hB=>?_) <;> try (exfalso;omega)))|refine sq ?_|refine rg ?_|refine xc ?_|refine nl ?_|refine xe ?_|refine rt ?_
  exact r1 ⟨rfl,rfl⟩
theorem Equal_tr (a b:Value) (l m:List Int):Tr Tryz.prog 142 [a,b] [vw a (By l),vw b (By m)] [] fun v D=>v = .bool (decide (l = m))∧D = []:=by
 refine Tr.enter env _ Tryz.func142 (by kernel_rfl) rfl Tryz.ntmps142 rfl (by repeat (first | exact has00 | refine has01 ?_)) fun w0=>?_
 refine TC.fact (p:=l.length ≤ 9223372036854775807) (fun w hw=>by have:=(has_sl hw (v:=a) (xs:=By l) hasA).len;rwa [By_len] at this) fun hln=>?_
 repeat' first|(refine wo ?_;first|(refine ao ?_;first|refine oa ?_)|refine oa ?_|refine lnm ?_)|(refine gc ?_;first|(refine cn (fun hB=>?_) (fun hB=>?_) <;> try (exfalso;omega)))|refine sq ?_|refine rg ?_|refine xc ?_|refine nl ?_|refine sk ?_|refine bk ?_|refine rt ?_
 ·refine r1 ⟨?_,rfl⟩
  rw [decide_eq_false];intro e;subst e;omega
 ·refine TC.loop (ι:=Nat) (fun k=>[(13,I k)]) (fun _=>[]) (fun k=>k ≤ l.length∧∀ j,j < k→l.getD j 0 = m.getD j 0) (fun k=>l.length - k) 0 [0,1,12] ⟨by omega,by omega⟩ ?_
  rintro k ⟨hk,heq⟩
  repeat' first|(refine wo ?_;first|(refine ao ?_;first|refine aw ?_|refine oa ?_)|refine oa ?_)|(refine gc ?_;first|(refine ci (fun hB=>?_) (fun hB=>?_) <;> try (exfalso;omega))|(refine cn (fun hB=>?_) (fun hB=>?_) <;> try (exfalso;omega)))|refine sq ?_|refine rg ?_|refine xc ?_|refine nl ?_|refine sk ?_|refine bk ?_|refine xe ?_|refine rt ?_|refine xb ?_|refine rq ?_|refine nq ?_|(refine wq ?_;first|(refine qao ?_;first|refine qa ?_)|refine qa ?_|refine qixmn ?_|refine qlb ?_)
  ·refine r1 ⟨?_,rfl⟩
   rw [decide_eq_false];intro e;exact hB (by rw [e])
  ·refine lp (k + 1) ⟨by omega,fun j hj=>?_⟩
   by_cases hjk:j < k
   ·exact heq j hjk
   ·obtain rfl:j = k:=by omega
    assumption
  ·refine r1 ⟨?_,rfl⟩
   rw [decide_eq_true]
   exact eq_of_getD (by omega) (fun j hj=>heq j (by omega))
theorem crcB_get (l:List Int) {i:Nat} (h:i < 4):(crcB l).getD i 0 = crcF l / 256 ^ i % 256:=by unfold crcB;simp [List.getD_eq_getElem?_getD,h]
theorem Clip_tr (v:Value) (l:List Int):Tr Tryz.prog 114 [v] [] [own TyB v (By l)] fun o D=>o.oneCell' = true∧D = [own TyB o (By l)]:=by
 refine Tr.enter env _ Tryz.func114 (by kernel_rfl) rfl Tryz.ntmps114 rfl (by repeat (first | exact has00 | refine has01 ?_)) fun w0=>?_
 refine TC.fact (p:=l.length ≤ 9223372036854775807) (fun w hw=>by have:=(has_sl hw (v:=v) (xs:=By l) hasA).len;rwa [By_len] at this) fun hln=>?_
 repeat' first|(refine wo ?_;first|refine oa ?_|refine lnm ?_)|refine sq ?_|refine rg ?_|refine xc ?_|refine nl ?_
 refine clp ?_
 refine TO.one (v:=clipV v l.length) (xs:=By l) fun h1=>?_
 repeat' first|(refine wo ?_;first|refine oa ?_)|refine xc ?_|refine nl ?_|refine rt ?_
 exact r1 ⟨h1,rfl⟩
theorem Seal_tr (b:Value) (l:List Int) (hl:l.length ≤ 1099511627776):Tr Tryz.prog 119 [nP,b] [vw b (By l)] [] fun v D=>v.oneCell' = true∧D = [own TyB v (By (sealF l))]:=by
 refine Tr.enter env _ Tryz.func119 (by kernel_rfl) rfl Tryz.ntmps119 rfl (by repeat (first | exact has00 | refine has01 ?_)) fun w0=>?_
 repeat' first|(refine gca ?_;first|(refine ca (Clone_tr b l hl) ?_;rintro o _ ⟨ho,rfl⟩)|(refine ca (Sum_crc b l) ?_;rintro _ _ ⟨rfl,rfl⟩))|(refine wo ?_;first|refine oa ?_)|refine sq ?_|refine rg ?_|refine xc ?_|refine nl ?_|refine bk ?_
 refine TC.loop (ι:=Nat × Value) (fun g=>[(13,I g.1),(5,g.2)]) (fun g=>[own TyB g.2 (By (l ++ (crcB l).take g.1))]) (fun g=>g.1 ≤ 4) (fun g=>4 - g.1) (0,o) [6] (by simp) ?_ (hf:=by rw [List.take_zero,List.append_nil];exact fitA)
 rintro ⟨i,o⟩ hi
 dsimp only at hi ⊢
 have hcp:=crcF_pos l
 have hll:((crcB l).take i).length ≤ 4:=by rw [List.length_take,crcB_len];omega
 by_cases h:i < 4
 ·have ht:=take_succ' (l:=crcB l) (i:=i) (by rw [crcB_len];exact h) 0
  rw [crcB_get l h] at ht
  have hp:=pow_256 (crcF l) i
  repeat' first|refine u8m ?_|(refine wo ?_;first|(refine ao ?_;first|refine aw ?_|refine oa ?_|refine shr ?_)|refine oa ?_)|(refine gc ?_;first|(refine ci (fun hB=>?_) (fun hB=>?_) <;> try (exfalso;omega)))|refine sq ?_|refine rg ?_|refine xc ?_|refine nl ?_|refine sk ?_|refine bk ?_
  rw [hp]
  refine slbz fun c hc=>?_
  refine apb fun o2 ho2=>?_
  repeat' first|(refine wo ?_;first|(refine ao ?_;first|refine aw ?_)|refine oa ?_)|refine rg ?_|refine xc ?_|refine nl ?_|refine xb ?_
  rw [List.append_assoc,← ht]
  exact lp (i + 1,o2) (by dsimp only;omega)
 ·have ht:(crcB l).take i = crcB l:=List.take_of_length_le (by rw [crcB_len];omega)
  rw [ht]
  repeat' first|(refine gca ?_;first|(refine ca (Clip_tr o (l ++ crcB l)) ?_;rintro q _ ⟨hq,rfl⟩))|(refine wo ?_;first|(refine ao ?_;first|refine oa ?_)|refine oa ?_)|(refine gc ?_;first|(refine ci (fun hB=>?_) (fun hB=>?_) <;> try (exfalso;omega)))|refine sq ?_|refine rg ?_|refine xc ?_|refine nl ?_|refine xe ?_|refine rt ?_
  exact r1 ⟨hq,rfl⟩
def openR (l:List Int):List Int × Int:=if l.length < 4 then ([],7) else if sealF (l.take (l.length - 4)) = l then (l.take (l.length - 4),0) else ([],8)
theorem Open_tr (b:Value) (l:List Int) (hl:l.length ≤ 1099511627776):Tr Tryz.prog 104 [nP,b] [vw b (By l)] [] fun v D=>∃ o,v = tup2 o (I (openR l).2)∧o.oneCell' = true∧D = [own TyB o (By (openR l).1)]:=by
 refine Tr.enter env _ Tryz.func104 (by kernel_rfl) rfl Tryz.ntmps104 rfl (by repeat (first | exact has00 | refine has01 ?_)) fun w0=>?_
 by_cases h4:l.length < 4
 ·rw [show openR l = ([],7) from if_pos h4]
  repeat' first|(refine wo ?_;first|(refine ao ?_;first|refine oa ?_)|refine oa ?_|refine lnm ?_)|(refine gc ?_;first|(refine ci (fun hB=>?_) (fun hB=>?_) <;> try (exfalso;omega)))|refine sq ?_|refine rg ?_|refine xc ?_|refine nl ?_|refine rt ?_
  refine TX.im (own_nil TyB _) ?_
  exact r2 ⟨nS,rfl,rfl,rfl⟩
 ·have hsub:((By l).take (l.length - 4)).drop 0 = By (l.take (l.length - 4)):=by rw [List.drop_zero];simp
  have hlt:(l.take (l.length - 4)).length ≤ 1099511627776:=by simp;omega
  have hn:((l.length:Int) - 4).toNat = l.length - 4:=by omega
  have hh:∀ F:List Ch,Has F (vw b (By l))→Has F (vw (slSub b 0 (l.length - 4)) (By (l.take (l.length - 4)))):=fun F h=>by
   rw [← hsub];exact has_sub h (Nat.zero_le _) (by rw [By_len];omega)
  repeat' first|(refine wo ?_;first|(refine ao ?_;first|refine aw ?_|refine oa ?_)|refine oa ?_|refine lnm ?_|refine schm ?_)|(refine gc ?_;first|(refine ci (fun hB=>?_) (fun hB=>?_) <;> try (exfalso;omega)))|refine sq ?_|refine rg ?_|refine xc ?_|refine nl ?_|refine sk ?_
  rw [hn]
  repeat' first|(refine gca ?_;first|(refine ca (Seal_tr _ (l.take (l.length - 4)) hlt) ?_ (hp:=has1 (hh _ hasA) has0);rintro o _ ⟨ho,rfl⟩)|(refine ca (Equal_tr _ _ (sealF (l.take (l.length - 4))) l) ?_;rintro _ _ ⟨rfl,rfl⟩)|(refine ca (Clone_tr _ (l.take (l.length - 4)) hlt) ?_ (hp:=has1 (hh _ hasA) has0);rintro q _ ⟨hq,rfl⟩))|(refine wo ?_;first|refine oa ?_)|(refine gc ?_;first|(refine cn (fun hB=>?_) (fun hB=>?_) <;> try (exfalso;omega)))|refine sq ?_|refine rg ?_|refine xc ?_|refine nl ?_|refine sk ?_|refine rt ?_
  ·rw [show openR l = ([],8) by rw [openR,if_neg h4,if_neg (by simpa using hB)]]
   refine TX.im (own_nil TyB _) ?_
   exact r2 ⟨nS,rfl,rfl,rfl⟩
  ·rw [show openR l = (l.take (l.length - 4),0) by rw [openR,if_neg h4,if_pos (by simpa using hB)]]
   exact r2 ⟨q,rfl,hq,rfl⟩
end Go.Art
namespace Go.Art
open Go Go.Proofs Go.RowKit
def frmB (k:Int):Bool:=decide (k = 1) || decide (k = 2)
def frmD (k:Int):Bool:=decide (k = 1) || decide (k = 5)
def frmR (k:Int):Int:=if k = 4 then 1 else 0
def frm (k:Int):List Value:=[.bool (frmB k),.bool (frmD k),I (frmR k)]
def formL:List Value:=[.bool false,.bool false,I 0,.bool true,.bool true,I 0,.bool true,.bool false,I 0,.bool false,.bool false,I 0,.bool false,.bool false,I 1,.bool false,.bool true,I 0]
theorem frm_at {k:Int} (h:1 ≤ k∧k ≤ 5):(formL.drop (k.toNat * 3)).take 3 = frm k:=by
 have h5:k = 1∨k = 2∨k = 3∨k = 4∨k = 5:=by omega
 rcases h5 with rfl | rfl | rfl | rfl | rfl <;> rfl
theorem frm_one (k:Int):∀ v ∈ frm k,v.oneCell' = true:=fun v hv=>by
 simp only [frm,List.mem_cons,List.not_mem_nil,or_false] at hv
 rcases hv with rfl | rfl | rfl <;> rfl
def pkOk (kd sn bn pn rn:Int) (len:Nat):Prop:=(1 ≤ kd∧kd ≤ 5)∧(0 ≤ sn∧sn ≤ 4294967295)∧(0 ≤ bn∧bn ≤ bif frmB kd then 4294967295 else 0)∧(0 ≤ pn∧pn ≤ bif frmB kd && frmD kd then 4294967295 else 0) ∧
 (((bif frmD kd then 1 else 0):Int) ≤ len∧(len:Int) ≤ bif frmD kd then 65535 else 0)∧frmR kd ≤ rn∧rn ≤ frmR kd * 15
instance (kd sn bn pn rn:Int) (len:Nat):Decidable (pkOk kd sn bn pn rn len):=by unfold pkOk;infer_instance
def pkE (kd sn bn pn rn:Int) (len:Nat):Int:=if pkOk kd sn bn pn rn len then 0 else 2
attribute [local irreducible] Fit pt own ro vw mpc lpt vels rels mow lrc dfr
attribute [local irreducible] lmp lme mit velg relg
abbrev TPk:TypeId:=51
abbrev TFm:TypeId:=156
theorem forms_tr:Tr Tryz.prog 108 [] [] [] fun v D=>v = .agg formL.toArray∧D = []:=by
 refine Tr.enter env _ Tryz.func108 (by kernel_rfl) rfl Tryz.ntmps108 rfl (by repeat (first | exact has00 | refine has01 ?_)) fun w0=>?_
 repeat' first|refine al fun b=>?_|refine bdz ?_|refine bda ?_|refine srz ?_|refine sq ?_|refine rg ?_|refine xc ?_|refine nl ?_|refine rt ?_
 exact rca1 (vs:=formL) ⟨rfl,rfl⟩
theorem within_tr (n lo hi:Int):Tr Tryz.prog 107 [I n,I lo,I hi] [] [] fun v D=>v = .bool (decide (lo ≤ n∧n ≤ hi))∧D = []:=by
 refine Tr.enter env _ Tryz.func107 (by kernel_rfl) rfl Tryz.ntmps107 rfl (by repeat (first | exact has00 | refine has01 ?_)) fun w0=>?_
 repeat' first|(refine wo ?_;first|(refine ao ?_;first|refine oa ?_)|refine oa ?_|refine gy ?_|refine gn ?_|(refine gsi (fun hB=>?_) (fun hB=>?_) <;> try (exfalso;omega)))|refine sq ?_|refine rg ?_|refine xc ?_|refine nl ?_|refine rt ?_
 all_goals refine r1 ⟨?_,rfl⟩
 all_goals first
  | rw [decide_eq_false (fun h:lo ≤ n∧n ≤ hi=>by omega)]
  | (congr 1;exact decide_eq_decide.2 ⟨fun h=>by omega,fun h=>by omega⟩)
theorem most_t (n:Int):Tr Tryz.prog 145 [.bool true,I n] [] [] fun v D=>v = I n∧D = []:=by
 refine Tr.enter env _ Tryz.func145 (by kernel_rfl) rfl Tryz.ntmps145 rfl (by repeat (first | exact has00 | refine has01 ?_)) fun w0=>?_
 repeat' first|(refine wo ?_;first|refine oa ?_)|(refine gc ?_;first|refine ct ?_)|refine sq ?_|refine rg ?_|refine xc ?_|refine nl ?_|refine rt ?_
 exact r1 ⟨rfl,rfl⟩
theorem most_f (n:Int):Tr Tryz.prog 145 [.bool false,I n] [] [] fun v D=>v = I 0∧D = []:=by
 refine Tr.enter env _ Tryz.func145 (by kernel_rfl) rfl Tryz.ntmps145 rfl (by repeat (first | exact has00 | refine has01 ?_)) fun w0=>?_
 repeat' first|(refine wo ?_;first|refine oa ?_)|(refine gc ?_;first|refine cf ?_)|refine sq ?_|refine rg ?_|refine xc ?_|refine nl ?_|refine sk ?_|refine rt ?_
 exact r1 ⟨rfl,rfl⟩
set_option maxHeartbeats 2000000 in
theorem PCheck_tr (kd sn bn pn rn:Int) (dv:Value) (l:List Int) (hd:dv.oneCell' = true):Tr Tryz.prog 113 [.agg #[I kd,I sn,I bn,I pn,I rn,dv]] [vw dv (By l)] [] fun v D=>v = I (pkE kd sn bn pn rn l.length)∧D = []:=by
 refine Tr.enter env _ Tryz.func113 (by kernel_rfl) rfl Tryz.ntmps113 rfl (by repeat (first | exact has00 | refine has01 ?_)) fun w0=>?_
 by_cases hk:1 ≤ kd∧kd ≤ 5
 rotate_left
 ·have e:pkE kd sn bn pn rn l.length = 2:=if_neg fun h=>hk h.1
  rw [e]
  repeat' first|(refine gca ?_;first|(refine ca (within_tr kd 1 5) ?_;rintro _ _ ⟨rfl,rfl⟩;rw [decide_eq_false hk]))|refine bx fun b=>?_|(refine wo ?_;first|refine oa ?_|refine ld ?_|refine gn ?_)|(refine gc ?_;first|refine ct ?_)|refine sq ?_|refine rg ?_|refine xc ?_|refine nl ?_|refine rt ?_
  exact r1 ⟨rfl,rfl⟩
 by_cases hs:0 ≤ sn∧sn ≤ 4294967295
 rotate_left
 ·have e:pkE kd sn bn pn rn l.length = 2:=if_neg fun h=>hs h.2.1
  rw [e]
  repeat' first|(refine gca ?_;first|(refine ca (within_tr kd 1 5) ?_;rintro _ _ ⟨rfl,rfl⟩;rw [decide_eq_true hk])|(refine ca (within_tr sn 0 4294967295) ?_;rintro _ _ ⟨rfl,rfl⟩;rw [decide_eq_false hs]))|refine bx fun b=>?_|(refine wo ?_;first|refine oa ?_|refine ld ?_|refine gy ?_)|(refine gc ?_;first|refine ct ?_)|refine sq ?_|refine rg ?_|refine xc ?_|refine nl ?_|refine rt ?_
  exact r1 ⟨rfl,rfl⟩
 repeat' first|(refine gca ?_;first|(refine ca (within_tr kd 1 5) ?_;rintro _ _ ⟨rfl,rfl⟩;rw [decide_eq_true hk])|(refine ca (within_tr sn 0 4294967295) ?_;rintro _ _ ⟨rfl,rfl⟩;rw [decide_eq_true hs]))|refine bx fun b=>?_|refine sq_cutX (a:=.region 3 _ _) (ι:=Nat) (fun _=>True) (fun q=>[(1,ptr b),(3,ptr q)]) (fun q=>[pt b [I kd,I sn,I bn,I pn,I rn,dv] TPk,pt q (frm kd) TFm,vw dv (By l)]) ?_ (fun kb=>?_)|refine rs (id:=3) (fun w=>w.heap[b]? = some (.cells [I kd,I sn,I bn,I pn,I rn,dv].toArray TPk (0,0))) ?_ (fun w hw=>pt_at memA hw)|(refine wo ?_;first|refine oa ?_|refine ld ?_|refine gy ?_)|(refine gc ?_;first|refine cf ?_)|refine sq ?_|refine rg ?_|refine xc ?_|refine nl ?_|refine sk ?_
 rotate_left
 ·refine tka 1 ?_
  refine tkl 2 (cs:=[I kd,I sn,I bn,I pn,I rn,dv]) (fun w h=>h) ?_
  refine t2 0 4 ?_ ?_
  ·refine ca forms_tr ?_
   rintro _ _ ⟨rfl,rfl⟩
   refine nl ?_
   refine te (fun w hw=>pt_at memA hw) ?_
   refine tk 3 (v:=.agg (frm kd).toArray) (hi:=rfl) (fun w h=>by exact R_indexA (E:=env) (cs:=formL) rfl rfl rfl rfl rfl rfl (by omega) (frm_at hk)) ?_
   refine t1 4 ?_
   refine al fun p3=>?_
   refine nl ?_
   refine te (fun w hw=>pt_at memA hw) ?_
   refine t1 5 ?_
   refine srz (vs:=frm kd) (cs':=frm kd) ?_ (hl:=rfl) (h1:=frm_one _) (hj:=Nat.le_of_ble_eq_true rfl) (hs:=rfl)
   refine nl ?_
   refine te (fun w hw=>pt_at memA hw) ?_
   refine t0 ?_
   refine xc ?_
   exact kb p3 trivial _ _ (by (repeat (refine Sub.cons rfl (by first | rfl | go_num) ?_));exact Sub.nil) fitA
  ·refine al fun p3=>?_
   refine nl ?_
   refine te (fun w hw=>pt_at memA hw) ?_
   refine t1 0 ?_
   refine ca forms_tr ?_
   rintro _ _ ⟨rfl,rfl⟩
   refine nl ?_
   refine te (fun w hw=>pt_at memA hw) ?_
   refine tk 3 (v:=.agg (frm kd).toArray) (hi:=rfl) (fun w h=>by exact R_indexA (E:=env) (cs:=formL) rfl rfl rfl rfl rfl rfl (by omega) (frm_at hk)) ?_
   refine t1 5 ?_
   refine srz (vs:=frm kd) (cs':=frm kd) ?_ (hl:=rfl) (h1:=frm_one _) (hj:=Nat.le_of_ble_eq_true rfl) (hs:=rfl)
   refine nl ?_
   refine te (fun w hw=>pt_at memA hw) ?_
   refine t0 ?_
   refine xc ?_
   exact kb p3 trivial _ _ (by (repeat (refine Sub.cons rfl (by first | rfl | go_num) ?_));exact Sub.nil) fitA
 intro q _
 have hE:pkE kd sn bn pn rn l.length = if (0 ≤ bn∧bn ≤ bif frmB kd then 4294967295 else 0)∧(0 ≤ pn∧pn ≤ bif frmB kd && frmD kd then 4294967295 else 0) ∧
   (((bif frmD kd then 1 else 0):Int) ≤ l.length∧(l.length:Int) ≤ bif frmD kd then 65535 else 0)∧frmR kd ≤ rn∧rn ≤ frmR kd * 15 then 0 else 2:=by
  unfold pkE pkOk
  by_cases h:(0 ≤ bn∧bn ≤ bif frmB kd then 4294967295 else 0)∧(0 ≤ pn∧pn ≤ bif frmB kd && frmD kd then 4294967295 else 0) ∧
   (((bif frmD kd then 1 else 0):Int) ≤ l.length∧(l.length:Int) ≤ bif frmD kd then 65535 else 0)∧frmR kd ≤ rn∧rn ≤ frmR kd * 15
  ·exact (if_pos ⟨hk,hs,h⟩).trans (if_pos h).symm
  ·exact (if_neg fun g=>h g.2.2).trans (if_neg h).symm
 have hr:frmR kd = 0∨frmR kd = 1:=by unfold frmR;split <;> simp
 rw [hE]
 unfold frm
 clear hE
 generalize frmB kd = fb at *
 generalize frmD kd = fd at *
 generalize frmR kd = fr at *
 cases fb <;> cases fd
 all_goals
  simp only [cond_true,cond_false,Bool.and_true,Bool.true_and,Bool.and_false,Bool.false_and]
  repeat' first|(refine cav (vs:=[.bool true,I _]) (cap:=#[]) (most_t _) ?_;rintro _ _ ⟨rfl,rfl⟩)|(refine cav (vs:=[.bool false,I _]) (cap:=#[]) (most_f _) ?_;rintro _ _ ⟨rfl,rfl⟩)|(refine qcav (vs:=[.bool true,I _]) (cap:=#[]) (most_t _) (fun _ _ h=>h) ?_)|(refine qcav (vs:=[.bool false,I _]) (cap:=#[]) (most_f _) (fun _ _ h=>h) ?_)|(refine qca (within_tr _ _ _) (fun _ _ h=>h) ?_)|(refine wo ?_;first|refine oa ?_|refine ld ?_)|(refine gc ?_;first|refine ct ?_|(refine cn (fun hB=>?_) (fun hB=>?_) <;> try (exfalso;omega)))|refine sq ?_|refine rg ?_|refine xc ?_|refine nl ?_|refine sk ?_|refine rt ?_|refine rq ?_|refine nq ?_|(refine wq ?_;first|(refine qao ?_;first|refine qaw ?_)|refine qa ?_|refine qld ?_|refine qlnm ?_|refine qgy ?_|refine qgn ?_|refine qgu ?_|(refine qgsn (fun hB=>?_) (fun hB=>?_) <;> try (exfalso;omega)))
  all_goals refine r1 ⟨?_,rfl⟩
  all_goals first | rw [if_pos (by omega)] | rw [if_neg (by omega)]
end Go.Art
namespace Go.Art
open Go Go.Proofs Go.RowKit
def pkB (kd sn bn pn rn:Int) (l:List Int):List Int:=
 (bif decide (0 < frmR kd) then (bif frmB kd && frmD kd then (bif frmB kd then [] ++ beB 1 kd ++ beB 4 sn ++ beB 4 bn else [] ++ beB 1 kd ++ beB 4 sn) ++ beB 4 pn else (bif frmB kd then [] ++ beB 1 kd ++ beB 4 sn ++ beB 4 bn else [] ++ beB 1 kd ++ beB 4 sn)) ++ beB 1 rn
  else (bif frmB kd && frmD kd then (bif frmB kd then [] ++ beB 1 kd ++ beB 4 sn ++ beB 4 bn else [] ++ beB 1 kd ++ beB 4 sn) ++ beB 4 pn else (bif frmB kd then [] ++ beB 1 kd ++ beB 4 sn ++ beB 4 bn else [] ++ beB 1 kd ++ beB 4 sn))) ++ l
def putR (kd sn bn pn rn:Int) (l:List Int):List Int × Int:=if pkOk kd sn bn pn rn l.length then (sealF (pkB kd sn bn pn rn l),0) else ([],2)
theorem frm_five {k:Int} (h:1 ≤ k∧k ≤ 5):(frmB k = true∧frmD k = true∧frmR k = 0)∨(frmB k = true∧frmD k = false∧frmR k = 0)∨(frmB k = false∧frmD k = false∧frmR k = 0)∨(frmB k = false∧frmD k = false∧frmR k = 1)∨(frmB k = false∧frmD k = true∧frmR k = 0):=by
 have h5:k = 1∨k = 2∨k = 3∨k = 4∨k = 5:=by omega
 rcases h5 with rfl | rfl | rfl | rfl | rfl <;> simp [frmB,frmD,frmR]
attribute [local irreducible] Fit pt own ro vw mpc lpt vels rels mow lrc dfr
attribute [local irreducible] lmp lme mit velg relg
set_option maxHeartbeats 2000000 in
theorem PPut_tr (kd sn bn pn rn:Int) (dv:Value) (l:List Int) (hd:dv.oneCell' = true):Tr Tryz.prog 76 [.agg #[I kd,I sn,I bn,I pn,I rn,dv]] [vw dv (By l)] []
  fun v D=>∃ o,v = tup2 o (I (putR kd sn bn pn rn l).2)∧o.oneCell' = true∧D = [own TyB o (By (putR kd sn bn pn rn l).1)]:=by
 have hck:=PCheck_tr kd sn bn pn rn dv l hd
 refine Tr.enter env _ Tryz.func76 (by kernel_rfl) rfl Tryz.ntmps76 rfl (by repeat (first | exact has00 | refine has01 ?_)) fun w0=>?_
 by_cases hok:pkOk kd sn bn pn rn l.length
 rotate_left
 ·rw [show putR kd sn bn pn rn l = ([],2) from if_neg hok]
  rw [show pkE kd sn bn pn rn l.length = 2 from if_neg hok] at hck
  repeat' first|(refine gca ?_;first|(refine ca hck ?_;rintro _ _ ⟨rfl,rfl⟩))|refine bx fun b=>?_|refine lda ?_|(refine wo ?_;first|(refine ao ?_;first|refine oa ?_)|refine oa ?_)|(refine gc ?_;first|refine ct ?_)|refine sq ?_|refine rg ?_|refine xc ?_|refine nl ?_|refine rt ?_
  refine TX.im (own_nil TyB _) ?_
  exact r2 ⟨nS,rfl,rfl,rfl⟩
 rw [show putR kd sn bn pn rn l = (sealF (pkB kd sn bn pn rn l),0) from if_pos hok]
 rw [show pkE kd sn bn pn rn l.length = 0 from if_pos hok] at hck
 obtain ⟨hk,hs,hb,hp,hl,hr⟩:=hok
 repeat' first|(refine gca ?_;first|(refine ca hck ?_;rintro _ _ ⟨rfl,rfl⟩)|(refine ca (NewWriter_tr 100000 (by omega)) ?_;rintro _ _ ⟨p,rfl,rfl⟩))|refine bx fun b=>?_|refine lda ?_|refine sq_cutX (a:=.region 4 _ _) (ι:=Nat) (fun _=>True) (fun q=>[(1,ptr b),(4,ptr p),(6,ptr q)]) (fun q=>[pt b [I kd,I sn,I bn,I pn,I rn,dv] TPk,pt q (frm kd) TFm,pt p [nS,.bool true,I 100000,I 0] TWr,own TyB nS (By []),vw dv (By l)]) ?_ (fun kb=>?_)|refine rs (id:=4) (fun w=>w.heap[b]? = some (.cells [I kd,I sn,I bn,I pn,I rn,dv].toArray TPk (0,0))) ?_ (fun w hw=>pt_at memA hw)|(refine wo ?_;first|(refine ao ?_;first|refine oa ?_)|refine oa ?_)|(refine gc ?_;first|refine cf ?_)|refine sq ?_|refine rg ?_|refine xc ?_|refine nl ?_|refine sk ?_
 rotate_left
 ·refine tka 1 ?_
  refine tkl 2 (cs:=[I kd,I sn,I bn,I pn,I rn,dv]) (fun w h=>h) ?_
  refine t2 0 4 ?_ ?_
  ·refine ca forms_tr ?_
   rintro _ _ ⟨rfl,rfl⟩
   refine nl ?_
   refine te (fun w hw=>pt_at memA hw) ?_
   refine tk 3 (v:=.agg (frm kd).toArray) (hi:=rfl) (fun w h=>by exact R_indexA (E:=env) (cs:=formL) rfl rfl rfl rfl rfl rfl (by omega) (frm_at hk)) ?_
   refine t1 4 ?_
   refine al fun p3=>?_
   refine nl ?_
   refine te (fun w hw=>pt_at memA hw) ?_
   refine t1 5 ?_
   refine srz (vs:=frm kd) (cs':=frm kd) ?_ (hl:=rfl) (h1:=frm_one _) (hj:=Nat.le_of_ble_eq_true rfl) (hs:=rfl)
   refine nl ?_
   refine te (fun w hw=>pt_at memA hw) ?_
   refine t0 ?_
   refine xc ?_
   exact kb p3 trivial _ _ (by (repeat (refine Sub.cons rfl (by first | rfl | go_num) ?_));exact Sub.nil) fitA
  ·refine al fun p3=>?_
   refine nl ?_
   refine te (fun w hw=>pt_at memA hw) ?_
   refine t1 0 ?_
   refine ca forms_tr ?_
   rintro _ _ ⟨rfl,rfl⟩
   refine nl ?_
   refine te (fun w hw=>pt_at memA hw) ?_
   refine tk 3 (v:=.agg (frm kd).toArray) (hi:=rfl) (fun w h=>by exact R_indexA (E:=env) (cs:=formL) rfl rfl rfl rfl rfl rfl (by omega) (frm_at hk)) ?_
   refine t1 5 ?_
   refine srz (vs:=frm kd) (cs':=frm kd) ?_ (hl:=rfl) (h1:=frm_one _) (hj:=Nat.le_of_ble_eq_true rfl) (hs:=rfl)
   refine nl ?_
   refine te (fun w hw=>pt_at memA hw) ?_
   refine t0 ?_
   refine xc ?_
   exact kb p3 trivial _ _ (by (repeat (refine Sub.cons rfl (by first | rfl | go_num) ?_));exact Sub.nil) fitA
 intro q _
 unfold frm pkB
 have n1:=beB_len 1 kd
 have n2:=beB_len 4 sn
 have n3:=beB_len 4 bn
 have n4:=beB_len 4 pn
 have n5:=beB_len 1 rn
 have five:=frm_five hk
 generalize hB1:beB 1 kd = B1 at *
 generalize hB2:beB 4 sn = B2 at *
 generalize hB3:beB 4 bn = B3 at *
 generalize hB4:beB 4 pn = B4 at *
 generalize hB5:beB 1 rn = B5 at *
 generalize frmB kd = fb at *
 generalize frmD kd = fd at *
 generalize frmR kd = fr at *
 have P1:=fun bv=>Put_tr p bv 100000 kd 1 [] (.inl rfl) (by omega) (by simp)
 have P2:=fun bv=>Put_tr p bv 100000 sn 4 ([] ++ B1) (.inr (.inr (.inl rfl))) (by omega) (by simp;omega)
 rw [hB1] at P1
 rw [hB2] at P2
 rcases five with ⟨rfl,rfl,rfl⟩ | ⟨rfl,rfl,rfl⟩ | ⟨rfl,rfl,rfl⟩ | ⟨rfl,rfl,rfl⟩ | ⟨rfl,rfl,rfl⟩
 ·simp only [cond_true,cond_false,Bool.and_self,Bool.and_true,Bool.true_and,Bool.and_false,Bool.false_and] at hb hp hl
  have P3:=fun bv=>Put_tr p bv 100000 bn 4 ([] ++ B1 ++ B2) (.inr (.inr (.inl rfl))) (by omega) (by simp;omega)
  rw [hB3] at P3
  have P4:=fun bv=>Put_tr p bv 100000 pn 4 ([] ++ B1 ++ B2 ++ B3) (.inr (.inr (.inl rfl))) (by omega) (by simp;omega)
  rw [hB4] at P4
  have R5:=fun bv=>Raw_tr p bv dv 100000 ([] ++ B1 ++ B2 ++ B3 ++ B4) l hd (by simp;omega)
  have Y5:=fun bv=>Bytes_tr p bv 100000 ([] ++ B1 ++ B2 ++ B3 ++ B4 ++ l) (by simp;omega)
  have S5:=fun o=>Seal_tr o ([] ++ B1 ++ B2 ++ B3 ++ B4 ++ l) (by simp;omega)
  repeat' first|(refine gca ?_;first|(refine ca (P1 _) ?_;rintro _ _ ⟨rfl,bv2,hv2,rfl⟩)|(refine ca (P2 _) ?_;rintro _ _ ⟨rfl,bv2,hv2,rfl⟩)|(refine ca (P3 _) ?_;rintro _ _ ⟨rfl,bv2,hv2,rfl⟩)|(refine ca (P4 _) ?_;rintro _ _ ⟨rfl,bv2,hv2,rfl⟩)|(refine ca (R5 _) ?_;rintro _ _ ⟨rfl,bv2,hv2,rfl⟩)|(refine ca (Y5 _) ?_;rintro _ _ ⟨yo,rfl,hyo,rfl⟩)|(refine ca (S5 _) ?_;rintro zo _ ⟨hzo,rfl⟩))|(refine wo ?_;first|(refine ao ?_;first|refine oa ?_)|refine oa ?_|refine ld ?_|refine gy ?_)|(refine gc ?_;first|refine ct ?_|refine cf ?_)|refine sq ?_|refine rg ?_|refine xc ?_|refine nl ?_|refine sk ?_|refine rt ?_
  exact r2 ⟨zo,rfl,hzo,rfl⟩
 ·simp only [cond_true,cond_false,Bool.and_self,Bool.and_true,Bool.true_and,Bool.and_false,Bool.false_and] at hb hp hl
  have P3:=fun bv=>Put_tr p bv 100000 bn 4 ([] ++ B1 ++ B2) (.inr (.inr (.inl rfl))) (by omega) (by simp;omega)
  rw [hB3] at P3
  have R5:=fun bv=>Raw_tr p bv dv 100000 ([] ++ B1 ++ B2 ++ B3) l hd (by simp;omega)
  have Y5:=fun bv=>Bytes_tr p bv 100000 ([] ++ B1 ++ B2 ++ B3 ++ l) (by simp;omega)
  have S5:=fun o=>Seal_tr o ([] ++ B1 ++ B2 ++ B3 ++ l) (by simp;omega)
  repeat' first|(refine gca ?_;first|(refine ca (P1 _) ?_;rintro _ _ ⟨rfl,bv2,hv2,rfl⟩)|(refine ca (P2 _) ?_;rintro _ _ ⟨rfl,bv2,hv2,rfl⟩)|(refine ca (P3 _) ?_;rintro _ _ ⟨rfl,bv2,hv2,rfl⟩)|(refine ca (R5 _) ?_;rintro _ _ ⟨rfl,bv2,hv2,rfl⟩)|(refine ca (Y5 _) ?_;rintro _ _ ⟨yo,rfl,hyo,rfl⟩)|(refine ca (S5 _) ?_;rintro zo _ ⟨hzo,rfl⟩))|(refine wo ?_;first|(refine ao ?_;first|refine oa ?_)|refine oa ?_|refine ld ?_|refine gy ?_)|(refine gc ?_;first|refine ct ?_|refine cf ?_)|refine sq ?_|refine rg ?_|refine xc ?_|refine nl ?_|refine sk ?_|refine rt ?_
  exact r2 ⟨zo,rfl,hzo,rfl⟩
 ·simp only [cond_true,cond_false,Bool.and_self,Bool.and_true,Bool.true_and,Bool.and_false,Bool.false_and] at hb hp hl
  have R5:=fun bv=>Raw_tr p bv dv 100000 ([] ++ B1 ++ B2) l hd (by simp;omega)
  have Y5:=fun bv=>Bytes_tr p bv 100000 ([] ++ B1 ++ B2 ++ l) (by simp;omega)
  have S5:=fun o=>Seal_tr o ([] ++ B1 ++ B2 ++ l) (by simp;omega)
  repeat' first|(refine gca ?_;first|(refine ca (P1 _) ?_;rintro _ _ ⟨rfl,bv2,hv2,rfl⟩)|(refine ca (P2 _) ?_;rintro _ _ ⟨rfl,bv2,hv2,rfl⟩)|(refine ca (R5 _) ?_;rintro _ _ ⟨rfl,bv2,hv2,rfl⟩)|(refine ca (Y5 _) ?_;rintro _ _ ⟨yo,rfl,hyo,rfl⟩)|(refine ca (S5 _) ?_;rintro zo _ ⟨hzo,rfl⟩))|(refine wo ?_;first|(refine ao ?_;first|refine oa ?_)|refine oa ?_|refine ld ?_|refine gn ?_)|(refine gc ?_;first|refine cf ?_)|refine sq ?_|refine rg ?_|refine xc ?_|refine nl ?_|refine sk ?_|refine rt ?_
  exact r2 ⟨zo,rfl,hzo,rfl⟩
 ·simp only [cond_true,cond_false,Bool.and_self,Bool.and_true,Bool.true_and,Bool.and_false,Bool.false_and] at hb hp hl
  have P3:=fun bv=>Put_tr p bv 100000 rn 1 ([] ++ B1 ++ B2) (.inl rfl) (by omega) (by simp;omega)
  rw [hB5] at P3
  have R5:=fun bv=>Raw_tr p bv dv 100000 ([] ++ B1 ++ B2 ++ B5) l hd (by simp;omega)
  have Y5:=fun bv=>Bytes_tr p bv 100000 ([] ++ B1 ++ B2 ++ B5 ++ l) (by simp;omega)
  have S5:=fun o=>Seal_tr o ([] ++ B1 ++ B2 ++ B5 ++ l) (by simp;omega)
  repeat' first|(refine gca ?_;first|(refine ca (P1 _) ?_;rintro _ _ ⟨rfl,bv2,hv2,rfl⟩)|(refine ca (P2 _) ?_;rintro _ _ ⟨rfl,bv2,hv2,rfl⟩)|(refine ca (P3 _) ?_;rintro _ _ ⟨rfl,bv2,hv2,rfl⟩)|(refine ca (R5 _) ?_;rintro _ _ ⟨rfl,bv2,hv2,rfl⟩)|(refine ca (Y5 _) ?_;rintro _ _ ⟨yo,rfl,hyo,rfl⟩)|(refine ca (S5 _) ?_;rintro zo _ ⟨hzo,rfl⟩))|(refine wo ?_;first|(refine ao ?_;first|refine oa ?_)|refine oa ?_|refine ld ?_|refine gn ?_)|(refine gc ?_;first|refine ct ?_|refine cf ?_)|refine sq ?_|refine rg ?_|refine xc ?_|refine nl ?_|refine sk ?_|refine rt ?_
  exact r2 ⟨zo,rfl,hzo,rfl⟩
 ·simp only [cond_true,cond_false,Bool.and_self,Bool.and_true,Bool.true_and,Bool.and_false,Bool.false_and] at hb hp hl
  have R5:=fun bv=>Raw_tr p bv dv 100000 ([] ++ B1 ++ B2) l hd (by simp;omega)
  have Y5:=fun bv=>Bytes_tr p bv 100000 ([] ++ B1 ++ B2 ++ l) (by simp;omega)
  have S5:=fun o=>Seal_tr o ([] ++ B1 ++ B2 ++ l) (by simp;omega)
  repeat' first|(refine gca ?_;first|(refine ca (P1 _) ?_;rintro _ _ ⟨rfl,bv2,hv2,rfl⟩)|(refine ca (P2 _) ?_;rintro _ _ ⟨rfl,bv2,hv2,rfl⟩)|(refine ca (R5 _) ?_;rintro _ _ ⟨rfl,bv2,hv2,rfl⟩)|(refine ca (Y5 _) ?_;rintro _ _ ⟨yo,rfl,hyo,rfl⟩)|(refine ca (S5 _) ?_;rintro zo _ ⟨hzo,rfl⟩))|(refine wo ?_;first|(refine ao ?_;first|refine oa ?_)|refine oa ?_|refine ld ?_|refine gn ?_)|(refine gc ?_;first|refine cf ?_)|refine sq ?_|refine rg ?_|refine xc ?_|refine nl ?_|refine sk ?_|refine rt ?_
  exact r2 ⟨zo,rfl,hzo,rfl⟩
end Go.Art
namespace Go.Art
open Go Go.Proofs Go.RowKit
def beV (l:List Int):Int:=l.foldl (fun n c=>n * 256 + c) 0
theorem beV_snoc (l:List Int) (c:Int):beV (l ++ [c]) = beV l * 256 + c:=by unfold beV;rw [List.foldl_append];rfl
theorem beV_acc:∀ (l:List Int) (a:Int),inB l→0 ≤ a→0 ≤ l.foldl (fun n c=>n * 256 + c) a∧l.foldl (fun n c=>n * 256 + c) a < (a + 1) * 256 ^ l.length
 | [],a,_,ha=>by simp;omega
 | c :: l,a,h,ha=>by
  have hc:=h c (by simp)
  obtain ⟨h1,h2⟩:=beV_acc l (a * 256 + c) (fun x hx=>h x (by simp [hx])) (by omega)
  refine ⟨h1,?_⟩
  have h3:(a * 256 + c + 1) * 256 ^ l.length ≤ ((a + 1) * 256) * 256 ^ l.length:=Int.mul_le_mul_of_nonneg_right (by omega) (Int.le_of_lt (Int.pow_pos (by decide)))
  rw [List.length_cons,Int.pow_succ,Int.mul_comm (256 ^ l.length) 256,← Int.mul_assoc]
  exact Int.lt_of_lt_of_le h2 h3
theorem beV_bound {l:List Int} (h:inB l):0 ≤ beV l∧beV l < 256 ^ l.length:=by
 have:=beV_acc l 0 h (by decide)
 simpa [beV] using this
structure RdS where
 at_:Int
 fe:Int
 fa:Int
def takesR (l:List Int) (s:RdS) (n:Int) (may:Bool):List Int × RdS:=
 if s.fe = 0 then
  if may = true∧0 ≤ n then
   if (l.length:Int) - s.at_ < n then ([],⟨s.at_,7,l.length⟩) else ((l.take (s.at_ + n).toNat).drop s.at_.toNat,⟨s.at_ + n,0,s.fa⟩)
  else ([],⟨s.at_,2,s.at_⟩)
 else ([],s)
def wideB (w:Int):Bool:=decide (w = 1∨w = 2∨w = 4∨w = 8)
def getR (l:List Int) (s:RdS) (w:Int):Int × RdS:=
 if beV (takesR l s w (wideB w)).1 < 9223372036854775808 then (beV (takesR l s w (wideB w)).1,(takesR l s w (wideB w)).2)
 else (0,⟨(takesR l s w (wideB w)).2.at_ - w,3,(takesR l s w (wideB w)).2.at_ - w⟩)
def RdS.ok (s:RdS) (l:List Int):Prop:=0 ≤ s.at_∧s.at_ ≤ l.length
theorem takesR_ok {l:List Int} {s:RdS} (h:s.ok l) (n:Int) (may:Bool):(takesR l s n may).2.ok l:=by
 unfold takesR RdS.ok at *
 split
 ·split
  ·split
   ·exact h
   ·dsimp only;omega
  ·exact h
 ·exact h
theorem takesR_len {l:List Int} {s:RdS} (h:s.ok l) (n:Int) (may:Bool):(takesR l s n may).1 = []∨(((takesR l s n may).1.length:Int) = n∧(takesR l s n may).2 = ⟨s.at_ + n,0,s.fa⟩∧may = true∧s.fe = 0):=by
 unfold takesR RdS.ok at *
 split
 ·split
  ·split
   ·exact .inl rfl
   ·rename_i h1 h2 h3
    refine .inr ⟨?_,rfl,h2.1,h1⟩
    simp only [List.length_drop,List.length_take];omega
  ·exact .inl rfl
 ·exact .inl rfl
theorem takesR_in {l:List Int} (hl:inB l) (s:RdS) (n:Int) (may:Bool):inB (takesR l s n may).1:=by
 unfold takesR
 split
 ·split
  ·split
   ·exact inB.nil
   ·exact fun x hx=>hl x (List.mem_of_mem_take (List.mem_of_mem_drop hx))
  ·exact inB.nil
 ·exact inB.nil
theorem wideB_le {w:Int} (h:wideB w = true):1 ≤ w∧w ≤ 8:=by
 have:=of_decide_eq_true h
 omega
theorem getR_ok {l:List Int} {s:RdS} (h:s.ok l) (w:Int):(getR l s w).2.ok l:=by
 have h1:=takesR_ok h w (wideB w)
 unfold getR
 split
 ·exact h1
 ·rename_i hn
  rcases takesR_len h w (wideB w) with e | ⟨_,e,_⟩
  ·rw [e] at hn;exact absurd (by decide) hn
  ·rw [e];unfold RdS.ok at *;dsimp only;omega
def or64 (p q:Int):Int:=((BitVec.ofInt 64 p ||| BitVec.ofInt 64 q).toNat:Int)
theorem or64_add {n c:Int} (hn:0 ≤ n∧n < 72057594037927936) (hc:0 ≤ c∧c ≤ 255):or64 (n * 256) c = n * 256 + c:=by
 obtain ⟨a,rfl⟩:=Int.eq_ofNat_of_zero_le hn.1
 obtain ⟨b,rfl⟩:=Int.eq_ofNat_of_zero_le hc.1
 unfold or64
 have e1:(BitVec.ofInt 64 ((a:Int) * 256)).toNat = 2 ^ 8 * a:=by rw [BitVec.toNat_ofInt];omega
 have e2:(BitVec.ofInt 64 (b:Int)).toNat = b:=by rw [BitVec.toNat_ofInt];omega
 rw [BitVec.toNat_or,e1,e2,← Nat.two_pow_add_eq_or_of_lt (by omega)]
 omega
section
variable {P:Program} {E:Env P} {n:Sh} {X:Cx} {s:List K} {fr:Fr} {A A':List Ch} {ops:Array Oper} {rest:List Oper} {d:Nat} {ty t t':TypeId} {pos:String} {after:Array Edge} {x y:Operand} {w:World} {p q:Int}
abbrev c64v (m:Int):Value:=.int .u64 m
theorem R_or64 (hx:ev fr x = some (c64v p)) (hy:ev fr y = some (c64v q)):OpV P n fr (.binOp .or t x y t') ty w (c64v (or64 p q)) w:=R_bin hx hy (by
 simp only [binOp,Op.intBits]
 show Result.ok (Value.int .u64 (IntKind.u64.wrap (((BitVec.ofInt 64 p) ||| (BitVec.ofInt 64 q)).toNat:Int))) w = _
 rw [wrap_u64,ofInt_toNat];rfl)
theorem R_shl8 (hx:ev fr x = some (c64v p)) (hy:ev fr y = some (c64v 8)) (hp:0 ≤ p∧p < 72057594037927936):OpV P n fr (.binOp .shl t x y t') ty w (c64v (p * 256)) w:=⟨fun a ha _ _ _ _=>by
 have hg:(eqGuard .shl t x y (c64v p) (c64v 8)).run P w = .ok () w:=rfl
 have e:IntKind.u64.wrap (p * 2 ^ (min (8:Int).toNat IntKind.u64.bits)) = p * 256:=by
  rw [show (min (8:Int).toNat IntKind.u64.bits) = 8 from rfl,show (2:Int) ^ 8 = 256 from rfl,show IntKind.u64.wrap (p * 256) = (p * 256) % 18446744073709551616 by simp [IntKind.wrap,IntKind.bits,IntKind.signed]];omega
 simp only [execOp,ha.ev hx,ha.ev hy]
 simp only [hg,Sem.run_bind,Result.andThen_ok]
 show (Result.andThen ((binOp .shl t (.int .u64 p) (.int .u64 8)).run P w) _) = _
 simp only [binOp,Op.shift]
 rw [if_neg (by decide)]
 show Result.ok (Next.value (.int .u64 (IntKind.u64.wrap (p * 2 ^ (min (8:Int).toNat IntKind.u64.bits))))) w = _
 rw [e]⟩
theorem or6 (k:TO E n X s ops rest ((d,c64v (or64 p q)) :: fr) A) (hx:ev fr x = some (c64v p):=by rfl) (hy:ev fr y = some (c64v q):=by rfl) (hd:Nat.blt d n.n = true:=by rfl):TO E n X s ops (⟨some d,.binOp .or t x y t',ty,pos,after,none⟩ :: rest) fr A:=TO.val (fun _ _=>R_or64 hx hy) k hd
theorem sh8 (k:TO E n X s ops rest ((d,c64v (p * 256)) :: fr) A) (hx:ev fr x = some (c64v p):=by rfl) (hy:ev fr y = some (c64v 8):=by rfl) (hp:0 ≤ p∧p < 72057594037927936:=by omega) (hd:Nat.blt d n.n = true:=by rfl):TO E n X s ops (⟨some d,.binOp .shl t x y t',ty,pos,after,none⟩ :: rest) fr A:=TO.val (fun _ _=>R_shl8 hx hy hp) k hd
end
attribute [local irreducible] Fit pt own ro vw mpc lpt vels rels mow lrc dfr
attribute [local irreducible] lmp lme mit velg relg
abbrev TRd:TypeId:=183
abbrev TpR:TypeId:=152
abbrev rdP (p:Nat) (bv:Value) (s:RdS) (l:List Int):List Ch:=[pt p [bv,.bool true,I s.at_,I s.fe,I s.fa] TRd,own TyB bv (By l)]
theorem rnone_tr (p:Nat) (bv x y z:Value):Tr Tryz.prog 144 [ptr p] [lpt p [bv,.bool true,x,y,z] TRd] [] fun v D=>v = .bool false∧D = []:=by
 refine Tr.enter env _ Tryz.func144 (by kernel_rfl) rfl Tryz.ntmps144 rfl (by repeat (first | exact has00 | refine has01 ?_)) fun w0=>?_
 repeat' first|(refine wo ?_;first|(refine ao ?_;first|refine ipe ?_)|refine oa ?_|refine ldl ?_|refine gy ?_)|refine sq ?_|refine rg ?_|refine xc ?_|refine nl ?_|refine rt ?_
 exact r1 ⟨rfl,rfl⟩
theorem NewReader_tr (b:Value) (l:List Int) (hl:l.length ≤ 1099511627776):Tr Tryz.prog 105 [b] [vw b (By l)] [] fun v D=>∃ p bv,v = ptr p∧bv.oneCell' = true∧D = rdP p bv ⟨0,0,0⟩ l:=by
 refine Tr.enter env _ Tryz.func105 (by kernel_rfl) rfl Tryz.ntmps105 rfl (by repeat (first | exact has00 | refine has01 ?_)) fun w0=>?_
 repeat' first|(refine gca ?_;first|(refine ca (Clone_tr b l hl) ?_;rintro o _ ⟨ho,rfl⟩))|refine bdz ?_|refine bdg ?_|refine bx fun p=>?_|(refine wo ?_;first|refine oa ?_)|refine sq ?_|refine rg ?_|refine xc ?_|refine nl ?_|refine rt ?_
 exact r1 ⟨_,o,rfl,ho,rfl⟩
theorem takes_tr (p:Nat) (bv:Value) (s:RdS) (l:List Int) (n:Int) (may:Bool) (hs:s.ok l) (hl:l.length ≤ 1099511627776):Tr Tryz.prog 143 [ptr p,I n,.bool may] [] (rdP p bv s l)
  fun v D=>v.oneCell' = true∧D = own TyB v (By (takesR l s n may).1) :: rdP p bv (takesR l s n may).2 l:=by
 obtain ⟨a,fe,fa⟩:=s
 unfold RdS.ok at hs
 dsimp only at hs
 refine Tr.enter env _ Tryz.func143 (by kernel_rfl) rfl Tryz.ntmps143 rfl (by repeat (first | exact has00 | refine has01 ?_)) fun w0=>?_
 refine TC.im (B:=[pt p [bv,.bool true,I a,I fe,I fa] TRd,own TyB bv (By l)]) (Im.refl _) ?_
 by_cases hf:fe = 0
 rotate_left
 ·rw [show takesR l ⟨a,fe,fa⟩ n may = ([],⟨a,fe,fa⟩) from if_neg hf]
  repeat' first|(refine gca ?_;first|(refine ca (rnone_tr p bv _ _ _) ?_;rintro _ _ ⟨rfl,rfl⟩))|(refine wo ?_;first|(refine ao ?_;first|refine oa ?_)|refine oa ?_|refine ld ?_|refine gy ?_)|(refine gc ?_;first|(refine cn (fun hB=>?_) (fun hB=>?_) <;> try (exfalso;omega)))|refine sq ?_|refine rg ?_|refine xc ?_|refine nl ?_|refine rt ?_
  refine TX.im (own_nil TyB _) ?_
  exact r1 ⟨rfl,rfl⟩
 subst hf
 by_cases hm:may = true∧0 ≤ n
 rotate_left
 ·rw [show takesR l ⟨a,0,fa⟩ n may = ([],⟨a,2,a⟩) by unfold takesR;rw [if_pos rfl,if_neg hm]]
  cases may
  ·repeat' first|(refine gca ?_;first|(refine ca (rnone_tr p bv _ _ _) ?_;rintro _ _ ⟨rfl,rfl⟩))|refine bdz ?_|refine srz ?_ (hj:=Nat.le_of_ble_eq_true rfl)|(refine wo ?_;first|(refine ao ?_;first|refine oa ?_)|refine oa ?_|refine ld ?_|refine gy ?_|refine gn ?_)|(refine gc ?_;first|refine ct ?_|refine cf ?_)|refine sq ?_|refine rg ?_|refine xc ?_|refine nl ?_|refine sk ?_|refine bk ?_|refine rt ?_|refine xb ?_
   refine TX.im (own_nil TyB _) ?_
   exact r1 ⟨rfl,rfl⟩
  ·have hn:n < 0:=by simp at hm;omega
   repeat' first|(refine gca ?_;first|(refine ca (rnone_tr p bv _ _ _) ?_;rintro _ _ ⟨rfl,rfl⟩))|refine bdz ?_|refine srz ?_ (hj:=Nat.le_of_ble_eq_true rfl)|(refine wo ?_;first|(refine ao ?_;first|refine oa ?_)|refine oa ?_|refine ld ?_|refine gy ?_)|(refine gc ?_;first|refine cf ?_|(refine ci (fun hB=>?_) (fun hB=>?_) <;> try (exfalso;omega)))|refine sq ?_|refine rg ?_|refine xc ?_|refine nl ?_|refine sk ?_|refine bk ?_|refine rt ?_|refine xb ?_
   refine TX.im (own_nil TyB _) ?_
   exact r1 ⟨rfl,rfl⟩
 obtain ⟨rfl,hn⟩:=hm
 refine TC.fact (p:=l.length ≤ 9223372036854775807) (fun w hw=>by have:=(has_sl hw (v:=bv) (xs:=By l) hasA).len;rwa [By_len] at this) fun hln=>?_
 by_cases hsh:(l.length:Int) - a < n
 ·rw [show takesR l ⟨a,0,fa⟩ n true = ([],⟨a,7,l.length⟩) by unfold takesR;rw [if_pos rfl,if_pos ⟨rfl,hn⟩,if_pos hsh]]
  repeat' first|(refine gca ?_;first|(refine ca (rnone_tr p bv _ _ _) ?_;rintro _ _ ⟨rfl,rfl⟩))|refine bdz ?_|refine srz ?_ (hj:=Nat.le_of_ble_eq_true rfl)|(refine wo ?_;first|(refine ao ?_;first|refine oa ?_)|refine oa ?_|refine ld ?_|refine lnm ?_|refine gy ?_)|(refine gc ?_;first|refine cf ?_|(refine ci (fun hB=>?_) (fun hB=>?_) <;> try (exfalso;omega)))|refine sq ?_|refine rg ?_|refine xc ?_|refine nl ?_|refine sk ?_|refine bk ?_|refine rt ?_|refine xb ?_|refine rq ?_|refine nq ?_|(refine wq ?_;first|(refine qao ?_;first|refine qaw ?_|refine qa ?_)|refine qa ?_|refine qld ?_|refine qlnm ?_)
  refine TX.im (own_nil TyB _) ?_
  exact r1 ⟨rfl,rfl⟩
 ·rw [show takesR l ⟨a,0,fa⟩ n true = ((l.take (a + n).toNat).drop a.toNat,⟨a + n,0,fa⟩) by unfold takesR;rw [if_pos rfl,if_pos ⟨rfl,hn⟩,if_neg hsh]]
  have hB:=By_len l
  have hsub:((By l).take (a + n).toNat).drop a.toNat = By ((l.take (a + n).toNat).drop a.toNat):=by simp
  have hlt:((l.take (a + n).toNat).drop a.toNat).length ≤ 1099511627776:=by simp;omega
  have hh:∀ F:List Ch,Has F (vw bv (By l))→Has F (vw (slSub bv a.toNat (a + n).toNat) (By ((l.take (a + n).toNat).drop a.toNat))):=fun F h=>by
   rw [← hsub];exact has_sub h (by omega) (by rw [By_len];omega)
  repeat' first|(refine gca ?_;first|(refine ca (rnone_tr p bv _ _ _) ?_;rintro _ _ ⟨rfl,rfl⟩))|(refine wo ?_;first|(refine ao ?_;first|refine oa ?_)|refine oa ?_|refine ld ?_|refine gy ?_)|(refine gc ?_;first|refine cf ?_|(refine ci (fun hB=>?_) (fun hB=>?_) <;> try (exfalso;omega)))|refine sq ?_|refine rg ?_|refine xc ?_|refine nl ?_|refine sk ?_|refine bk ?_|refine rs (id:=3) (fun w=>w.heap[p]? = some (.cells [bv,.bool true,I a,I 0,I fa].toArray TRd (0,0))∧Sl w bv (By l)) ?_ (fun w hw=>⟨pt_at memA hw,has_sl hw hasA⟩)|refine rq ?_|refine nq ?_|(refine wq ?_;first|(refine qao ?_;first|refine qaw ?_|refine qa ?_)|refine qa ?_|refine qld ?_|refine qlnm ?_)
  refine tka 0 ?_
  refine tka 1 ?_
  refine tka 2 ?_
  refine tka 3 ?_
  refine tkl 4 (cs:=[bv,.bool true,I a,I 0,I fa]) (fun w h=>h.1) ?_
  refine tka 5 ?_
  refine tka 6 ?_
  refine tka 7 ?_
  refine tkl 8 (cs:=[bv,.bool true,I a,I 0,I fa]) (fun w h=>h.1) ?_
  refine tka 9 ?_
  refine tka 10 ?_
  refine tka 11 ?_
  refine tkl 12 (cs:=[bv,.bool true,I a,I 0,I fa]) (fun w h=>h.1) ?_
  refine tka 13 ?_
  refine tkw 14 (a + n) ?_
  refine tk 15 (v:=slSub bv a.toNat (a + n).toNat) (hi:=rfl) (fun w h=>by exact R_slice (E:=env) rfl rfl rfl rfl rfl h.2 (by rw [By_len];omega)) ?_
  refine t1 16 ?_
  refine ca (Clone_tr _ ((l.take (a + n).toNat).drop a.toNat) hlt) ?_ (hp:=has1 (hh _ hasA) has0)
  rintro o _ ⟨ho,rfl⟩
  refine nl ?_
  refine te (fun w hw=>⟨pt_at memA hw,has_sl hw hasA⟩) ?_
  refine tka 17 ?_
  refine t0 ?_
  repeat' first|(refine wo ?_;first|(refine ao ?_;first|refine aw ?_)|refine oa ?_|refine ld ?_|refine sr ?_)|refine sq ?_|refine rg ?_|refine xc ?_|refine nl ?_|refine rt ?_|refine xb ?_
  exact r1 ⟨ho,rfl⟩
theorem width_tr (n:Int):Tr Tryz.prog 82 [I n] [] [] fun v D=>v = .bool (wideB n)∧D = []:=by
 refine Tr.enter env _ Tryz.func82 (by kernel_rfl) rfl Tryz.ntmps82 rfl (by repeat (first | exact has00 | refine has01 ?_)) fun w0=>?_
 repeat' first|(refine wo ?_;first|(refine ao ?_;first|refine oa ?_)|refine oa ?_|refine gy ?_|refine gn ?_|(refine gsi (fun hB=>?_) (fun hB=>?_) <;> try (exfalso;omega)))|refine sq ?_|refine rg ?_|refine xc ?_|refine nl ?_|refine rt ?_
 all_goals refine r1 ⟨?_,rfl⟩
 all_goals unfold wideB
 all_goals first
  | rw [decide_eq_true (show n = 1∨n = 2∨n = 4∨n = 8 by omega)]
  | (congr 1;exact decide_eq_decide.2 ⟨fun h=>by omega,fun h=>by omega⟩)
theorem beV_lt7 {m:List Int} (h:inB m) (hl:m.length ≤ 7):0 ≤ beV m∧beV m < 72057594037927936:=by
 have h1:=beV_bound h
 have h2:m.length = 0∨m.length = 1∨m.length = 2∨m.length = 3∨m.length = 4∨m.length = 5∨m.length = 6∨m.length = 7:=by omega
 rcases h2 with e | e | e | e | e | e | e | e <;> rw [e] at h1 <;> omega
theorem beV_lt8 {m:List Int} (h:inB m) (hl:m.length ≤ 8):0 ≤ beV m∧beV m < 18446744073709551616:=by
 rcases Nat.lt_or_ge m.length 8 with h7 | h8
 ·have:=beV_lt7 h (by omega);omega
 ·have h1:=beV_bound h
  rw [show m.length = 8 by omega] at h1
  omega
set_option maxRecDepth 4000 in
theorem Get_tr (p:Nat) (bv:Value) (s:RdS) (l:List Int) (n:Int) (hs:s.ok l) (hl:l.length ≤ 1099511627776) (hin:inB l):Tr Tryz.prog 106 [ptr p,I n] [] (rdP p bv s l)
  fun v D=>v = I (getR l s n).1∧D = rdP p bv (getR l s n).2 l:=by
 have hT:=takes_tr p bv s l n (wideB n) hs hl
 have hok:=takesR_ok hs n (wideB n)
 have hlen:=takesR_len hs n (wideB n)
 have hmi:=takesR_in hin s n (wideB n)
 have hm8:(takesR l s n (wideB n)).1.length ≤ 8:=by
  rcases hlen with h | ⟨h1,_,h2,_⟩
  ·rw [h];simp
  ·have:=wideB_le h2;omega
 have hn8:(takesR l s n (wideB n)).1 = []∨(1 ≤ n∧n ≤ 8):=by
  rcases hlen with h | ⟨h1,_,h2,_⟩
  ·exact .inl h
  ·exact .inr (wideB_le h2)
 unfold getR
 clear hlen
 generalize takesR l s n (wideB n) = T at *
 obtain ⟨m,a,fe,fa⟩:=T
 unfold RdS.ok at hok
 dsimp only at hT hok hmi hm8 hn8 ⊢
 refine Tr.enter env _ Tryz.func106 (by kernel_rfl) rfl Tryz.ntmps106 rfl (by repeat (first | exact has00 | refine has01 ?_)) fun w0=>?_
 refine TC.im (B:=rdP p bv s l) (Im.refl _) ?_
 repeat' first|(refine gca ?_;first|(refine ca (width_tr n) ?_;rintro _ _ ⟨rfl,rfl⟩)|(refine ca hT ?_;rintro v _ ⟨hv,rfl⟩))|(refine wo ?_;first|refine oa ?_|refine lnm ?_)|refine sq ?_|refine rg ?_|refine xc ?_|refine nl ?_|refine bk ?_
 refine TC.loop (ι:=Nat) (fun i=>[(14,I i),(5,c64v (beV (m.take i)))]) (fun i=>[own TyB v (By m),pt p [bv,.bool true,I a,I fe,I fa] TRd,own TyB bv (By l)]) (fun i=>i ≤ m.length) (fun i=>m.length - i) 0 [0,1,12,13] (by omega) ?_
 intro i hi
 by_cases h:i < m.length
 ·have ht:beV (m.take (i + 1)) = beV (m.take i) * 256 + m.getD i 0:=by rw [take_succ' h 0,beV_snoc]
  have h7:=beV_lt7 (m:=m.take i) (fun x hx=>hmi x (List.mem_of_mem_take hx)) (by simp;omega)
  have hc:=hmi _ (mem_getD.2 ⟨i,h,rfl⟩)
  have ho:=or64_add h7 hc
  generalize hx2:beV (m.take (i + 1)) = x2 at *
  generalize beV (m.take i) = x1 at *
  generalize hcc:m.getD i 0 = c at *
  repeat' first|refine sh8 ?_|refine or6 ?_|refine ucv ?_|(refine wo ?_;first|(refine ao ?_;first|refine aw ?_|refine oa ?_)|refine oa ?_|refine ixmn ?_|refine lb ?_)|(refine gc ?_;first|(refine ci (fun hB=>?_) (fun hB=>?_) <;> try (exfalso;omega)))|refine sq ?_|refine rg ?_|refine xc ?_|refine nl ?_|refine sk ?_|refine bk ?_|refine xb ?_
  rw [hcc,ho]
  repeat' first|(refine wo ?_;first|(refine ao ?_;first|refine aw ?_|refine aw6 ?_|refine oa ?_|refine adiv ?_|refine amod ?_|refine shr1 ?_|refine shr ?_|refine umod ?_|refine isl ?_|refine ipe ?_|refine ipn ?_|refine ibe ?_)|refine acw ?_|refine ucv ?_|refine anw ?_|refine oa ?_|refine ld ?_|refine ldl ?_|refine lnm ?_|refine ixmn ?_|refine ixm ?_|refine li ?_|refine lb ?_|refine lv ?_|refine ln ?_|refine ixn ?_|refine ix ?_|refine le ?_|refine sr ?_|refine soi ?_|refine sob ?_|refine scm ?_|refine sclm ?_|refine schm ?_|refine gy ?_|refine gn ?_|refine gnn ?_|refine gu ?_|(refine gsi (fun hB=>?_) (fun hB=>?_) <;> try (exfalso;omega))|(refine gsn (fun hB=>?_) (fun hB=>?_) <;> try (exfalso;omega))|(refine gs (fun hB=>?_) (fun hB=>?_) <;> try (exfalso;omega)))|(refine gc ?_;first|refine ct ?_|refine cf ?_|(refine ci (fun hB=>?_) (fun hB=>?_) <;> try (exfalso;omega))|(refine cn (fun hB=>?_) (fun hB=>?_) <;> try (exfalso;omega))|(refine cb (fun hB=>?_) (fun hB=>?_) <;> try (exfalso;omega)))|refine sq ?_|refine rg ?_|refine xc ?_|refine nl ?_|refine sk ?_|refine bk ?_|refine xe ?_|refine rt ?_|refine xb ?_
  exact lp (i + 1) (by omega) (hs:=by rw [hx2,ht];(repeat (refine Sub.cons rfl (by first | rfl | go_num) ?_));exact Sub.nil)
 ·have hml:m.take i = m:=List.take_of_length_le (by omega)
  have h8:=beV_lt8 hmi hm8
  rw [hml]
  by_cases hbig:beV m < 9223372036854775808
  ·rw [if_pos hbig]
   repeat' first|(refine wo ?_;first|(refine ao ?_;first|refine oa ?_)|refine acw ?_|refine oa ?_)|(refine gc ?_;first|(refine ci (fun hB=>?_) (fun hB=>?_) <;> try (exfalso;omega)))|refine sq ?_|refine rg ?_|refine xc ?_|refine nl ?_|refine sk ?_|refine xe ?_|refine rt ?_
   exact r1 ⟨rfl,rfl⟩
  ·rw [if_neg hbig]
   have hn9:1 ≤ n∧n ≤ 8:=by
    rcases hn8 with e | e
    ·rw [e] at hbig;exact absurd (by decide) hbig
    ·exact e
   repeat' first|refine bdz ?_|refine srz ?_ (hj:=Nat.le_of_ble_eq_true rfl)|(refine wo ?_;first|(refine ao ?_;first|refine aw ?_|refine oa ?_)|refine oa ?_|refine ld ?_|refine sr ?_)|(refine gc ?_;first|(refine ci (fun hB=>?_) (fun hB=>?_) <;> try (exfalso;omega)))|refine sq ?_|refine rg ?_|refine xc ?_|refine nl ?_|refine xe ?_|refine rt ?_
   exact r1 ⟨rfl,rfl⟩
theorem RRaw_tr (p:Nat) (bv:Value) (s:RdS) (l:List Int) (n:Int) (hs:s.ok l) (hl:l.length ≤ 1099511627776):Tr Tryz.prog 110 [ptr p,I n] [] (rdP p bv s l)
  fun v D=>v.oneCell' = true∧D = own TyB v (By (takesR l s n true).1) :: rdP p bv (takesR l s n true).2 l:=by
 refine Tr.enter env _ Tryz.func110 (by kernel_rfl) rfl Tryz.ntmps110 rfl (by repeat (first | exact has00 | refine has01 ?_)) fun w0=>?_
 refine TC.im (B:=rdP p bv s l) (Im.refl _) ?_
 repeat' first|(refine gca ?_;first|(refine ca (takes_tr p bv s l n true hs hl) ?_;rintro v _ ⟨hv,rfl⟩))|(refine wo ?_;first|refine oa ?_)|refine sq ?_|refine rg ?_|refine xc ?_|refine nl ?_|refine rt ?_
 exact r1 ⟨hv,rfl⟩
def restR (l:List Int) (s:RdS):Int:=if s.fe = 0 then l.length - s.at_ else 0
theorem Rest_tr (p:Nat) (bv:Value) (s:RdS) (l:List Int) (hs:s.ok l):Tr Tryz.prog 111 [ptr p] [lpt p [bv,.bool true,I s.at_,I s.fe,I s.fa] TRd,vw bv (By l)] [] fun v D=>v = I (restR l s)∧D = []:=by
 obtain ⟨a,fe,fa⟩:=s
 unfold RdS.ok at hs
 dsimp only at hs ⊢
 refine Tr.enter env _ Tryz.func111 (by kernel_rfl) rfl Tryz.ntmps111 rfl (by repeat (first | exact has00 | refine has01 ?_)) fun w0=>?_
 refine TC.fact (p:=l.length ≤ 9223372036854775807) (fun w hw=>by have:=(has_sl hw (v:=bv) (xs:=By l) hasA).len;rwa [By_len] at this) fun hln=>?_
 repeat' first|(refine gca ?_;first|(refine ca (rnone_tr p bv _ _ _) ?_;rintro _ _ ⟨rfl,rfl⟩))|(refine wo ?_;first|(refine ao ?_;first|refine oa ?_)|refine oa ?_|refine ldl ?_|refine gy ?_)|(refine gc ?_;first|(refine cn (fun hB=>?_) (fun hB=>?_) <;> try (exfalso;omega)))|refine sq ?_|refine rg ?_|refine xc ?_|refine nl ?_|refine sk ?_|refine rt ?_|refine rq ?_|refine nq ?_|(refine wq ?_;first|(refine qao ?_;first|refine qaw ?_)|refine qa ?_|refine qldl ?_|refine qlnm ?_)
 ·rw [show restR l ⟨a,fe,fa⟩ = 0 from if_neg (by assumption)]
  exact r1 ⟨rfl,rfl⟩
 ·rw [show restR l ⟨a,fe,fa⟩ = l.length - a from if_pos (by assumption)]
  exact r1 ⟨rfl,rfl⟩
def endR (l:List Int) (s:RdS):Int × Int:=if s.fe = 0∧s.at_ < l.length then (4,s.at_) else (s.fe,s.fa)
theorem End_tr (p:Nat) (bv:Value) (s:RdS) (l:List Int) (hs:s.ok l):Tr Tryz.prog 112 [ptr p] [lpt p [bv,.bool true,I s.at_,I s.fe,I s.fa] TRd,vw bv (By l)] [] fun v D=>v = .agg #[I (endR l s).1,I (endR l s).2]∧D = []:=by
 obtain ⟨a,fe,fa⟩:=s
 unfold RdS.ok at hs
 dsimp only at hs ⊢
 refine Tr.enter env _ Tryz.func112 (by kernel_rfl) rfl Tryz.ntmps112 rfl (by repeat (first | exact has00 | refine has01 ?_)) fun w0=>?_
 refine TC.fact (p:=l.length ≤ 9223372036854775807) (fun w hw=>by have:=(has_sl hw (v:=bv) (xs:=By l) hasA).len;rwa [By_len] at this) fun hln=>?_
 repeat' first|(refine gca ?_;first|(refine ca (rnone_tr p bv _ _ _) ?_;rintro _ _ ⟨rfl,rfl⟩))|refine bdz ?_|refine srz ?_ (hj:=Nat.le_of_ble_eq_true rfl)|refine al fun q=>?_|refine ldla ?_|(refine wo ?_;first|refine oa ?_|refine ldl ?_)|(refine gc ?_;first|refine cf ?_|(refine ci (fun hB=>?_) (fun hB=>?_) <;> try (exfalso;omega)))|refine sq ?_|refine rg ?_|refine xc ?_|refine nl ?_|refine sk ?_|refine bk ?_|refine rt ?_|refine xb ?_|refine rq ?_|refine nq ?_|(refine wq ?_;first|(refine qao ?_;first|refine qa ?_)|refine qa ?_|refine qldl ?_|refine qlnm ?_|refine qgy ?_|refine qgn ?_|(refine qgsi (fun hB=>?_) (fun hB=>?_) <;> try (exfalso;omega)))
 ·rw [show endR l ⟨a,fe,fa⟩ = (4,a) from if_pos (by dsimp only;omega)]
  exact rca1 (vs:=[I 4,I a]) ⟨rfl,rfl⟩
 ·rw [show endR l ⟨a,fe,fa⟩ = (fe,fa) from if_neg (by dsimp only;omega)]
  exact rca1 (vs:=[I fe,I fa]) ⟨rfl,rfl⟩
 ·rw [show endR l ⟨a,fe,fa⟩ = (fe,fa) from if_neg (by dsimp only;omega)]
  exact rca1 (vs:=[I fe,I fa]) ⟨rfl,rfl⟩
end Go.Art
namespace Go.Art
open Go Go.Proofs Go.RowKit
section
variable {P:Program} {E:Env P} {n:Sh} {X:Cx} {s:List K} {fr:Fr} {A:List Ch} {ops:Array Oper} {rest:List Oper} {d:Nat} {ty t t':TypeId} {pos:String} {after:Array Edge} {x y:Operand} {w:World} {a b c e:Int} {f0 f1:Field}
theorem run_part1 {cs:Array Value} {tt:TypeId} {k:IntKind} {i:Nat} {v:Value} (h:P.underlying tt = some (.int k)) (hv:cs[i]? = some v):(part tt cs i).run P w = .ok v w:=by
 simp [part,isAgg,run_underlying h,hv]
theorem run_eqI (m:Nat) {tt:TypeId} {k:IntKind} (h:P.underlying tt = some (.int k)) (a c:Int):(Op.equalIn (m + 1) tt (I a) (I c)).run P w = .ok (a == c) w:=by
 simp [Op.equalIn,run_underlying h]
theorem run_eq2 {k0 k1:IntKind} (ht:P.underlying t = some (.struct #[f0,f1])) (h0:P.underlying f0.type = some (.int k0)) (h1:P.underlying f1.type = some (.int k1)) (hn0:f0.name ≠ "_") (hn1:f1.name ≠ "_") (ho0:f0.offset = 0) (ho1:f1.offset = 1) (hs:P.stoodInHeld t = false) :
  (Op.equal t (.agg #[I a,I b]) (.agg #[I c,I e])).run P w = .ok (decide (a = c∧b = e)) w:=by
 show (Op.equalIn (9998 + 1 + 1) t (.agg #[I a,I b]) (.agg #[I c,I e])).run P w = _
 rw [Op.equalIn]
 have e1:∀ m:Nat,(Op.equalIn (m + 1) f0.type (I a) (I c)).run P w = .ok (a == c) w:=fun m=>run_eqI m h0 a c
 have e2:∀ m:Nat,(Op.equalIn (m + 1) f1.type (I b) (I e)).run P w = .ok (b == e) w:=fun m=>run_eqI m h1 b e
 have p1:(part f0.type #[I a,I b] 0).run P w = .ok (I a) w:=run_part1 h0 rfl
 have p2:(part f0.type #[I c,I e] 0).run P w = .ok (I c) w:=run_part1 h0 rfl
 have p3:(part f1.type #[I a,I b] 1).run P w = .ok (I b) w:=run_part1 h1 rfl
 have p4:(part f1.type #[I c,I e] 1).run P w = .ok (I e) w:=run_part1 h1 rfl
 have hp:(program:Sem Program).run P w = .ok P w:=rfl
 have g1:=e1 9998
 have g2:=e2 9998
 simp only [Nat.reduceAdd] at g1 g2
 simp [run_underlying ht,Sem.run_bind,hp,hs,hn0,hn1,ho0,ho1,p1,p2,p3,p4,g1,g2]
 by_cases c1:a = c
 ·by_cases c2:b = e
  ·simp [c1,c2]
  ·simp [c1,c2]
 ·simp [c1]
theorem R_ne2 {k0 k1:IntKind} (ht:lk E.und t = some (.struct #[f0,f1])) (h0:lk E.und f0.type = some (.int k0)) (h1:lk E.und f1.type = some (.int k1)) (hn0:f0.name ≠ "_") (hn1:f1.name ≠ "_") (ho0:f0.offset = 0) (ho1:f1.offset = 1) (hs:P.stoodInHeld t = false) (hg:P.eqGuardType P.depth t = false)
  (hx:ev fr x = some (.agg #[I a,I b])) (hy:ev fr y = some (.agg #[I c,I e])):OpV P n fr (.binOp .neq t x y t') ty w (.bool (!decide (a = c∧b = e))) w:=⟨fun ac ha _ _ _ _=>by
 have hp:(program:Sem Program).run P w = .ok P w:=rfl
 have hg':(eqGuard .neq t x y (.agg #[I a,I b]) (.agg #[I c,I e])).run P w = .ok () w:=by
  unfold eqGuard
  simp [Sem.run_bind,hp,hg]
 have he:=run_eq2 (P:=P) (w:=w) (a:=a) (b:=b) (c:=c) (e:=e) (E.un ht) (E.un h0) (E.un h1) hn0 hn1 ho0 ho1 hs
 simp only [execOp,ha.ev hx,ha.ev hy]
 simp [hg',binOp,he]⟩
end
end Go.Art
