/- Texts put together: Ic Id Ie StopO Vi Vj Vk Gp Ga Vl Rr Zj Vn Vp Vq Vs If Ig Ih Ii Ij Jl Jm. Conditions: none. -/
import Derived.Test.YtpabbhpgikdhfaaGreatWNg
set_option linter.unusedSimpArgs false
set_option linter.unusedVariables false
namespace Go.Art
open Go Go.Proofs Go.RowKit
theorem Ty.bndK {P:Program} {l:Nat} {vs:List Value} {K pre C:List Ch} {R:Bool→List Ch→Prop} (h:Ty P l vs pre (C ++ K) fun b D=>∃ C' K',D = C' ++ K'∧R b (K' ++ [Go.Art.bnd C'])):Ty P l vs pre (K ++ [Go.Art.bnd C]) R:=by
 refine ⟨fun w hw=>?_,h.lent⟩
 have p1:(pre ++ (K ++ [Go.Art.bnd C])).Perm (Go.Art.bnd C :: (pre ++ K)):=by
  have:((pre ++ K) ++ [Go.Art.bnd C]).Perm (Go.Art.bnd C :: (pre ++ K)):=List.perm_append_comm (l₁:=pre ++ K) (l₂:=[Go.Art.bnd C])
  simpa using this
 have h1:Sat (pre ++ (C ++ K)) w:=(bnd_sat.1 (hw.perm p1)).perm (List.perm_append_comm_assoc C pre K)
 have e1:∀ (C K:List Ch) (b:Nat),wrs (C ++ K) b ↔ wrs (K ++ [Go.Art.bnd C]) b:=fun C K b=>by
  constructor
  ·rintro ⟨c,hc,hb⟩
   rcases List.mem_append.1 hc with hc | hc
   ·exact ⟨Go.Art.bnd C,by simp,c,hc,hb⟩
   ·exact ⟨c,List.mem_append_left _ hc,hb⟩
  ·rintro ⟨c,hc,hb⟩
   rcases List.mem_append.1 hc with hc | hc
   ·exact ⟨c,List.mem_append_right _ hc,hb⟩
   ·rw [List.mem_singleton.1 hc] at hb
    obtain ⟨d,hd,h⟩:=hb
    exact ⟨d,List.mem_append_left _ hd,h⟩
 have e2:∀ (C K:List Ch) (b:Nat),rds (C ++ K) b ↔ rds (K ++ [Go.Art.bnd C]) b:=fun C K b=>by
  constructor
  ·rintro ⟨c,hc,hb⟩
   rcases List.mem_append.1 hc with hc | hc
   ·exact ⟨Go.Art.bnd C,by simp,c,hc,hb⟩
   ·exact ⟨c,List.mem_append_left _ hc,hb⟩
  ·rintro ⟨c,hc,hb⟩
   rcases List.mem_append.1 hc with hc | hc
   ·exact ⟨c,List.mem_append_right _ hc,hb⟩
   ·rw [List.mem_singleton.1 hc] at hb
    obtain ⟨d,hd,h⟩:=hb
    exact ⟨d,List.mem_append_left _ hd,h⟩
 refine (h.run w h1).mono fun b w' ⟨B,⟨C',K',hB',hR⟩,hS,hM,hnb⟩=>?_
 subst hB'
 refine ⟨K' ++ [Go.Art.bnd C'],hR,?_,⟨hM.os,hM.tape,hM.output,hM.size,fun k hk hn=>hM.block k hk fun h=>hn ((e1 C K k).1 h),fun x hx=>(hM.wr x ((e1 C' K' x).2 hx)).imp_left (e1 C K x).1,fun x hx=>(hM.rd x ((e2 C' K' x).2 hx)).imp (e1 C K x).1 (Or.imp_left (e2 C K x).1)⟩,fun c hc x hx=>?_⟩
 ·exact (bnd_sat.2 hS).perm (List.perm_append_comm (l₁:=[Go.Art.bnd C']) (l₂:=K'))
 ·rcases List.mem_append.1 hc with hc | hc
  ·exact hnb c (List.mem_append_right _ hc) x hx
  ·rw [List.mem_singleton.1 hc] at hx
   obtain ⟨y,hy,h2⟩:=hx
   exact hnb y (List.mem_append_left _ hy) x h2
def ripE (t:List Int) (k n:Int):Int:=if k < 1∨1024 < k∨n < 0∨4096 < n then 3 else solE t k
theorem ripE_zero {t:List Int} {k n:Int} (h:ripE t k n = 0):(1 ≤ k∧k ≤ 1024)∧(0 ≤ n∧n ≤ 4096)∧solE t k = 0:=by
 unfold ripE at h
 split at h
 ·cases h
 ·exact ⟨by omega,by omega,h⟩
def psN (n u:Nat) (x:List Rat) (i:Nat):Rat:=sR (fun i=>if u = 0∨i % (n + 1) = 0 then x.getD i 0 else 0) (List.range i)
theorem psN_all (n u:Nat) (x:List Rat):psN n u x ((n + 1) * (n + 1)) = stuckR n u x:=rfl
theorem psN_zero (n u:Nat) (x:List Rat):psN n u x 0 = 0:=rfl
theorem psN_in {n u:Nat} {x:List Rat} {i:Nat} (h:u = 0∨i % (n + 1) = 0):psN n u x (i + 1) = psN n u x i + x.getD i 0:=by unfold psN;rw [sR_last,if_pos h]
theorem psN_out {n u:Nat} {x:List Rat} {i:Nat} (h:¬ (u = 0∨i % (n + 1) = 0)):psN n u x (i + 1) = psN n u x i:=by unfold psN;rw [sR_last,if_neg h,Rat.add_zero]
theorem psN_fr {n E u:Nat} {x:List Rat} (hx:Lv n E x) {i:Nat} (hi:i ≤ (n + 1) * (n + 1)):FrQ E (psN n u x i):=FrQ.sum fun j hj=>by
 have:=List.mem_range.1 hj
 split
 ·exact hx.fr j (by omega)
 ·exact FrQ.zero E
theorem psN_le {n E u:Nat} {x:List Rat} (hx:Lv n E x) {i:Nat} (hi:i ≤ (n + 1) * (n + 1)):psN n u x i ≤ tot n x:=by
 rw [tot_eq]
 obtain ⟨q,hq⟩:=Nat.exists_eq_add_of_le hi
 rw [hq,List.range_add,sR_app]
 have h1:psN n u x i ≤ sR (fun i=>x.getD i 0) (List.range i):=sR_le fun j hj=>by
  have:=List.mem_range.1 hj
  split
  ·exact Rat.le_refl
  ·exact (hx.fr j (by omega)).nonneg
 have h2:0 ≤ sR (fun i=>x.getD i 0) ((List.range q).map (i + ·)):=sR_nonneg fun j hj=>by
  obtain ⟨a,ha,rfl⟩:=List.mem_map.1 hj
  have:=List.mem_range.1 ha
  exact (hx.fr _ (by omega)).nonneg
 grind
def stL (t:List Int) (k n:Nat):List Rat:=(List.range (k + 1)).map (stT t k n)
theorem stL_len (t:List Int) (k n:Nat):(stL t k n).length = k + 1:=by simp [stL]
theorem stL_get {t:List Int} {k n i:Nat} (h:i < k + 1):(stL t k n).getD i 0 = stT t k n i:=by simp [stL,List.getD_eq_getElem?_getD,h]
theorem zrs_rcs:∀ N:Nat,zrs N = rcs (List.replicate N 0) (hsE nS2 (List.replicate N none))
 | 0=>rfl
 | N + 1=>by
  have ih:=zrs_rcs N
  unfold zrs rcs hsE at *
  rw [List.replicate_succ,List.flatten_cons,ih,List.replicate_succ,List.replicate_succ,List.map_cons,List.zipWith_cons_cons,List.flatten_cons]
  rfl
theorem getD_setO (l:List (Option HV)) (i j:Nat) (x:Option HV) (hj:j < l.length):(l.set j x).getD i none = if i = j then x else l.getD i none:=by
 simp only [List.getD_eq_getElem?_getD,List.getElem?_set]
 by_cases e:i = j
 ·subst e;simp [hj]
 ·rw [if_neg (fun h=>e h.symm),if_neg e]
theorem has_gowS {F:List Ch} {es:List (Option HV)} {qs:List Rat} (hl:es.length = qs.length) (h:gow es qs ∈ F) {i:Nat} (hi:i < qs.length) {p:HV} (he:es.getD i none = some p) :
  Has F (vw p.1 (Us (dg (qs.getD i 0).num.natAbs)))∧Has F (vw p.2 (Us (dg (qs.getD i 0).den))):=by
 have h1:=gps_get (es:=es) (qs:=qs) (i:=i) (by omega) hi
 rw [he] at h1
 exact ⟨has_bndI (.inr h) (List.mem_of_getElem? h1) (has_bndI (.inr (List.mem_singleton.2 rfl)) (List.Mem.head _) (has_own (List.mem_singleton.2 rfl))),
  has_bndI (.inr h) (List.mem_of_getElem? h1) (has_bndI (.inr (List.mem_singleton.2 rfl)) (List.Mem.tail _ (List.Mem.head _)) (has_own (List.mem_singleton.2 rfl)))⟩
theorem gow_ofr (F:List Ch):∀ {es:List (Option HV)} {qs:List Rat},es.length = qs.length→(∀ i,i < qs.length→(es.getD i none).isSome)→Im (gow es qs :: F) (ofr (hsE nS2 es) qs :: F)
 | [],[],_,_=>(un_bnd [] F).trans (owl_nil F)
 | [],_ :: _,h,_=>by simp at h
 | _ :: _,[],h,_=>by simp at h
 | e :: es,q :: qs,h,H=>by
  have h0:=H 0 (by simp)
  cases e with
  | none=>cases h0
  | some p=>
   have ih:=gow_ofr (own T64 p.1 (Us (dg q.num.natAbs)) :: own T64 p.2 (Us (dg q.den)) :: F) (es:=es) (qs:=qs) (by simpa using h) fun i hi=>by
    have:=H (i + 1) (by simpa using hi)
    simpa [List.getD_eq_getElem?_getD] using this
   have a1:Im (gow (some p :: es) (q :: qs) :: F) (bnd [own T64 p.1 (Us (dg q.num.natAbs)),own T64 p.2 (Us (dg q.den))] :: gow es qs :: F):=bnd_uncons _ _ F
   refine a1.trans ((un_bnd _ _).trans ?_)
   show Im (own T64 p.1 (Us (dg q.num.natAbs)) :: own T64 p.2 (Us (dg q.den)) :: gow es qs :: F) _
   refine (im_swap3 _ _ _ F).trans (ih.trans ?_)
   show Im (owl T64 wU (hpc (hsE nS2 es)) (pcl qs) :: own T64 p.1 (Us (dg q.num.natAbs)) :: own T64 p.2 (Us (dg q.den)) :: F) (bnd (own T64 p.1 ((Zs (dg q.num.natAbs)).map wU) :: own T64 p.2 ((Zs (dg q.den)).map wU) :: owls T64 wU (hpc (hsE nS2 es)) (pcl qs)) :: F)
   rw [← Us_eq,← Us_eq]
   refine (Im.perm ((List.perm_middle (l₁:=[own T64 p.1 (Us (dg q.num.natAbs)),own T64 p.2 (Us (dg q.den))])).symm)).trans ?_
   exact (Im.cons _ (bnd_cons (own T64 p.2 (Us (dg q.den))) _ F)).trans (bnd_cons (own T64 p.1 (Us (dg q.num.natAbs))) _ F)
attribute [local irreducible] Fit pt own ro vw mpc lpt vels rels mow lrc dfr
attribute [local irreducible] lmp lme mit velg relg bnd owl dfrl gow shB grB
theorem riprefuses_tr (tv:Value) (t:List Int) (k n:Int):Tr Tryz.prog 56 [tv,I k,I n] [vw tv (Is t)] [] fun u D=>u = I (ripE t k n)∧D = []:=by
 have hC:=SoCheck_tr tv t k
 have h13:=@solE_13 t k
 unfold ripE
 by_cases hc:k < 1∨1024 < k∨n < 0∨4096 < n
 ·rw [if_pos hc]
  refine Tr.enter env _ Tryz.func56 (by kernel_rfl) rfl Tryz.ntmps56 rfl (by repeat (first | exact has00 | refine has01 ?_)) fun w0=>?_
  repeat' first|(refine wo ?_;first|(refine ao ?_;first|refine oa ?_)|refine oa ?_|refine gy ?_|refine gn ?_|(refine gsi (fun hB=>?_) (fun hB=>?_) <;> try (exfalso;omega)))|(refine gc ?_;first|refine ct ?_|(refine ci (fun hB=>?_) (fun hB=>?_) <;> try (exfalso;omega)))|refine sq ?_|refine rg ?_|refine xc ?_|refine nl ?_|refine bk ?_|refine rt ?_
  all_goals exact r1 ⟨rfl,rfl⟩
 ·rw [if_neg hc]
  by_cases hz:solE t k = 0
  ·rw [hz] at hC ⊢
   refine Tr.enter env _ Tryz.func56 (by kernel_rfl) rfl Tryz.ntmps56 rfl (by repeat (first | exact has00 | refine has01 ?_)) fun w0=>?_
   repeat' first|(refine gca ?_;first|(refine ca hC ?_;rintro _ _ ⟨rfl,rfl⟩))|(refine wo ?_;first|(refine ao ?_;first|refine oa ?_)|refine oa ?_|refine gy ?_|(refine gsi (fun hB=>?_) (fun hB=>?_) <;> try (exfalso;omega)))|(refine gc ?_;first|refine cf ?_|(refine ci (fun hB=>?_) (fun hB=>?_) <;> try (exfalso;omega)))|refine sq ?_|refine rg ?_|refine xc ?_|refine nl ?_|refine sk ?_|refine bk ?_|refine rt ?_|refine xb ?_
   exact r1 ⟨rfl,rfl⟩
  ·rw [h13 hz] at hC ⊢
   refine Tr.enter env _ Tryz.func56 (by kernel_rfl) rfl Tryz.ntmps56 rfl (by repeat (first | exact has00 | refine has01 ?_)) fun w0=>?_
   repeat' first|(refine gca ?_;first|(refine ca hC ?_;rintro _ _ ⟨rfl,rfl⟩))|(refine wo ?_;first|(refine ao ?_;first|refine oa ?_)|refine oa ?_|refine gy ?_|(refine gsi (fun hB=>?_) (fun hB=>?_) <;> try (exfalso;omega)))|(refine gc ?_;first|refine ct ?_|(refine ci (fun hB=>?_) (fun hB=>?_) <;> try (exfalso;omega)))|refine sq ?_|refine rg ?_|refine xc ?_|refine nl ?_|refine bk ?_|refine rt ?_
   exact r1 ⟨rfl,rfl⟩
end Go.Art
namespace Go.Art
open Go Go.Proofs Go.RowKit
section
variable {P:Program} {E:Env P} {n:Sh} {fr:Fr} {A A' D G:List Ch} {m:Nat}
theorem m2t {Ds:List Nat} {w0:World} {A0:List Ch} {R':Value→List Ch→Prop} {fn:Func} {t t2:Nat} {v1 v2:Value} (h:R' (.tuple #[v1,v2]) D) (hr:fn.results = #[.tmp t,.tmp t2]:=by rfl) (hv:get fr t = some v1:=by rfl) (hv2:get fr t2 = some v2:=by rfl)
  (hm:Tk (dfrl Ds) A A':=by exact tkA) (hf:Fit A' D G:=by exact fitA) (nb:∀ c ∈ D,∀ b,¬ c.bd b:=by (repeat (first | exact nb0 | refine nb1 ?_));first | done | fail) (hn:n = ⟨m,marks Ds,none⟩:=by rfl) :
  TX E n ⟨bodyPostM (FF none) 0 P fn (RetP (PR w0 A0 R')),w0,A0⟩ [] .ret fr A:=by
 subst hn
 exact mG (.inl rfl) h (fun w hw a ha=>by rw [results_tmp2 hr a.tmps P w,ha.slot _ _ hv,ha.slot _ _ hv2]) hm hf nb
end
structure SkG where
 qs:List Rat
 es:List (Option HV)
structure SkI (t:List Int) (k n j:Nat) (g:SkG):Prop where
 ql:g.qs.length = k + 1
 el:g.es.length = k + 1
 in_:∀ i,i < k + 1→k + 1 ≤ i + j→g.qs.getD i 0 = stT t k n i∧(g.es.getD i none).isSome
structure SkP where
 i:Nat
 p:HV
theorem stI_set {t:List Int} {k n j:Nat} {g:SkG} (h:SkI t k n j g) (hj:j ≤ k) (p:HV):SkI t k n (j + 1) ⟨g.qs.set (k - j) (stT t k n (k - j)),g.es.set (k - j) (some p)⟩:=by
 refine ⟨by rw [List.length_set,h.ql],by rw [List.length_set,h.el],fun i hi h2=>?_⟩
 rw [getD_setR _ _ _ _ (by rw [h.ql];omega),getD_setO _ _ _ _ (by rw [h.el];omega)]
 by_cases e:i = k - j
 ·subst e;rw [if_pos rfl,if_pos rfl];exact ⟨rfl,rfl⟩
 ·rw [if_neg e,if_neg e];exact h.in_ i hi (by omega)
theorem stI_all {t:List Int} {k n:Nat} {g:SkG} (h:SkI t k n (k + 1) g):g.qs = stL t k n∧∀ i,i < g.qs.length→(g.es.getD i none).isSome:=by
 refine ⟨List.ext_getElem (by rw [h.ql,stL_len]) fun i h1 h2=>?_,fun i hi=>(h.in_ i (by rw [h.ql] at hi;exact hi) (by omega)).2⟩
 have h3:=(h.in_ i (by rw [h.ql] at h1;exact h1) (by omega)).1
 rw [← stL_get (by rw [h.ql] at h1;exact h1)] at h3
 simpa [List.getD_eq_getElem?_getD,h1,h2] using h3
theorem rcs_setS {z:HV} {es:List (Option HV)} {qs:List Rat} (hl:es.length = qs.length) {i:Nat} (hi:i < qs.length) (q:Rat) (p:HV):(rcs qs (hsE z es)).take (3 * i) ++ rrow q p ++ (rcs qs (hsE z es)).drop (3 * i + 3) = rcs (qs.set i q) (hsE z (es.set i (some p))):=by
 rw [rcs_set (by rw [hsE_len,hl]) hi,hsE_set]
attribute [local irreducible] Fit pt own ro vw mpc lpt vels rels mow lrc dfr
attribute [local irreducible] lmp lme mit velg relg bnd owl dfrl gow shB grB
abbrev TRs:TypeId:=26
set_option maxHeartbeats 1000000 in
theorem Stuck_tr (tv:Value) (htv:tv.oneCell' = true) (t:List Int) (k n:Nat) (hz:solE t k = 0) (hk:k ≤ 40) (hl:t.length ≤ 12) (hn:n ≤ 12):Tr Tryz.prog 18 [tv,I k,I n] [vw tv (Is t)] []
  fun u D=>∃ v hs,u = tup2 v (I 0)∧v.oneCell' = true∧hs.length = k + 1∧D = [oww TRt 3 v (k + 1) (rcs (stL t k n) hs),ofr hs (stL t k n)]:=by
 have hk1:=(solE_zero hz).1
 have hR:=riprefuses_tr tv t k n
 rw [show ripE t k n = 0 by unfold ripE;rw [if_neg (by omega)];exact hz] at hR
 have hLv:=levels_tr tv htv (k:Int) (n:Int)
 have hW:=whole_tr 0 (by decide)
 rw [zero_mk] at hW
 have hrunL:=fun p1 p2 p3=>@SeqW.run _ _ _ _ _ _ _ (levels1_seq p1 p2 p3 tv htv t k n hz hk hl hn)
 obtain ⟨B,hB⟩ : ∃ B,B = 20000:=⟨_,rfl⟩
 have hB9:B ≤ 8589934592:=by omega
 have hfact:=fun j (hj:j ≤ k)=>lvT_facts hz hk hl hn hB (j:=j) hj
 have hPF:∀ j u i,j ≤ k→i ≤ ((n + 1) * (n + 1))→FB (psN n u (lvT t k n j) i) 8589934592:=fun j u i hj hi=>by
  obtain ⟨b1,b2,b3,b4⟩:=hfact j hj
  exact (FB_le1 (psN_fr b1 hi) b3 (Rat.le_trans (psN_le b1 hi) b2) b4).le hB9
 have hXF:∀ j i,j ≤ k→i < ((n + 1) * (n + 1))→FB ((lvT t k n j).getD i 0) 8589934592:=fun j i hj hi=>by
  obtain ⟨b1,b2,b3,b4⟩:=hfact j hj
  exact (y_FB b1 b2 b3 b4 hi).le hB9
 have hst:∀ j,j ≤ k→stuckR n (k - j) (lvT t k n j) = stT t k n (k - j):=fun j hj=>by unfold stT;rw [show k - (k - j) = j by omega]
 have hset:=fun j g (h:SkI t k n j g) (hj:j ≤ k) p=>stI_set h hj p
 have hall:=fun g (h:SkI t k n (k + 1) g)=>stI_all h
 have hql:∀ j,(lvT t k n j).length = ((n + 1) * (n + 1)):=fun j=>(supp_lv _ _ _ _ j).len
 have hPl:=fun v hv=>places_tr n v hv
 have hst0:SkI t k n 0 ⟨List.replicate (k + 1) 0,List.replicate (k + 1) none⟩:=⟨by simp,by simp,fun i h1 h2=>by omega⟩
 unfold FQ at hW
 have e0:((0:Nat):Int) = 0:=rfl
 rw [e0] at hW
 clear hz hfact hB hB9
 generalize lvT t k n = L at *
 generalize stL t k n = LL at *
 have hkk:(k:Int) + 1 = ((k + 1:Nat):Int):=rfl
 refine Tr.enterM env _ Tryz.func18 (by kernel_rfl) rfl Tryz.ntmps18 rfl (by repeat (first | exact has00 | refine has01 ?_)) fun w0=>?_
 repeat' first|(refine gca ?_;first|(refine ca hR ?_;rintro _ _ ⟨rfl,rfl⟩)|(refine ca hLv ?_;rintro _ _ ⟨p1,p2,p3,rfl,rfl⟩))|(refine aw (m:=(k:Int) + 1) ?_;rw [hkk])|(refine mkw (sz:=3) (c:=((k + 1:Nat):Int)) (fun sv hsv=>?_);rw [Int.toNat_natCast,zrs_eq,zrs_rcs])|refine al fun c9=>?_|(refine wo ?_;first|(refine ao ?_;first|refine oa ?_)|refine oa ?_|refine sr ?_)|(refine gc ?_;first|refine cf ?_)|refine sq ?_|refine rg ?_|refine xc ?_|refine nl ?_|refine sk ?_|refine bk ?_
 refine TC.im (gow_none _ (k + 1) (List.replicate (k + 1) 0)) ?_
 have hrun:=@hrunL p1 p2 p3
 clear hrunL hLv hR
 refine TC.range [lbd [lpt c9 [sv] TRs],lbd [lpt p1 [tv] TLs,lpt p2 [I k] TLI,lpt p3 [I n] TLI,vw tv (Is t)]] [oww TRt 3 sv (k + 1) (rcs (List.replicate (k + 1) 0) (hsE nS2 (List.replicate (k + 1) none))),gow (List.replicate (k + 1) none) (List.replicate (k + 1) 0)] (fun l2 rec Dm pend B'=>∃ g:SkG,B' = [dfr Dm,oww TRt 3 sv (k + 1) (rcs g.qs (hsE nS2 g.es)),gow g.es g.qs]∧pend = none∧SkI t k n (k + 1) g) ?_ ?_ (hp:=has1 (lbd_of (has1 hasA has0)) (has1 (lbd_of (has1 hasA (has1 hasA (has1 hasA (has1 hasA has0))))) has0))
 rotate_left
 ·rintro l2 rec Dm pend B' ⟨⟨qs,es⟩,rfl,rfl,hS⟩
  obtain ⟨e1,e2⟩:=hall _ hS
  have h1:=hS.ql
  have h2:=hS.el
  dsimp only at e1 e2 h1 h2 ⊢
  subst e1
  show TX env _ _ _ _ _ _
  refine TX.im (dfrl_nil _) ?_
  refine TX.im (dfrl_push (D:=Dm) (Ds:=[]) fitA) ?_
  repeat' first|(refine wo ?_;first|refine oa ?_|refine ld ?_)|refine sq ?_|refine rg ?_|refine xc ?_|refine nl ?_|refine rt ?_|refine xb ?_
  refine TX.im (Im.trans (Im.perm (List.perm_middle (l₁:=[dfrl [Dm],oww TRt 3 sv (k + 1) (rcs qs (hsE nS2 es))]))) (gow_ofr _ (by omega) e2)) ?_
  exact m2t (Ds:=[Dm]) ⟨sv,hsE nS2 es,rfl,hsv,by rw [hsE_len];exact h2,rfl⟩
 intro rec l2 Dm hr
 refine Tr.unb (hrun (α:=SkG) (lbd [lpt c9 [sv] TRs]) l2 (fun g=>bnd [lrc l2 rec .ready none,dfr Dm,oww TRt 3 sv (k + 1) (rcs g.qs (hsE nS2 g.es)),gow g.es g.qs]) (fun g j=>SkI t k n j g) (fun _=>False) ⟨List.replicate (k + 1) 0,List.replicate (k + 1) none⟩ hst0 (fun p=>bnd_nob (by repeat (first | exact nb0 | refine nb1 ?_))) ?_) ?_
 rotate_left
 ·rintro _ _ ⟨g,rfl,h | h⟩
  ·exact ⟨_,rfl,.ready,none,_,rfl,by decide,g,rfl,rfl,h⟩
  ·exact h.elim
 clear hrun hst0 hall
 rintro ⟨qs,es⟩ j v ez z hv hz hgr hS hj
 have hset:=hset j _ hS hj
 have hqs:=hS.ql
 have hes:=hS.el
 dsimp only at hset hqs hes ⊢
 refine Ty.bndK (K:=[grB n v (L j) ez z]) ?_
 refine Ty.pre (pre:=[lpt c9 [sv] TRs]) ?_ (has_lbds (C:=[lpt c9 [sv] TRs]) (List.Mem.head _) _ (by repeat (first | exact has00 | refine has01 ?_)) fun c hc=>hc) (by repeat (first | exact has00 | refine has01 ?_))
 refine Ty.intro env hr (by repeat (first | exact has00 | refine has01 ?_)) fun w1=>?_
 have hPl:=hPl v hv
 have hPF:=fun i hi=>hPF j (k - j) i hj hi
 have hXF:=fun i hi=>hXF j i hj hi
 rw [← hst j hj] at hset
 clear hst hS
 have hql:=hql j
 have hhl:(hsE z ez).length = (L j).length:=by rw [hsE_len,hgr.el,hgr.ql]
 generalize L j = x at *
 have hu:k - j < k + 1:=by omega
 generalize k - j = u at *
 repeat' first|refine al fun c11=>?_|refine srz ?_ (hj:=Nat.le_of_ble_eq_true rfl)|refine xbeg ?_|(refine wo ?_;first|refine sr ?_)|refine sq ?_|refine rg ?_|refine xc ?_|refine nl ?_|refine bk ?_
 rename_i c10
 have hul:=show u < qs.length by omega
 have hrs:=fun (q':Rat) (p':HV)=>rcs_setS (z:=nS2) (es:=es) (qs:=qs) (by omega) (i:=u) hul q' p'
 refine rs (fun w'=>w'.heap[c9]? = some (.cells [sv].toArray TRs (0,0))∧w'.heap[c10]? = some (.cells [I u].toArray TLI (0,0))∧∃ xs,SlW w' sv (k + 1) xs) ?_ (fun w' hw=>⟨lpt_at memA hw,pt_at memA hw,_,(has_oww (e:=TRt) (sz:=3) (v:=sv) (n:=k + 1) memA).P w' hw⟩)
 refine krl 0 (cs:=[sv]) (fun w' h=>h.1) ?_
 refine krl 1 (cs:=[I u]) (fun w' h=>h.2.1) ?_
 refine t1 2 ?_
 refine ca hW ?_
 rintro _ _ ⟨n1,d1,rfl,hn1,hd1,rfl⟩
 refine nl ?_
 refine te (fun w' hw=>⟨lpt_at memA hw,pt_at memA hw,_,(has_oww (e:=TRt) (sz:=3) (v:=sv) (n:=k + 1) memA).P w' hw⟩) ?_
 refine kr 3 (v:=.pointer (some (adr sv (3 * u)))) (hi:=rfl) (fun w' h=>by obtain ⟨xs,hx⟩:=h.2.2;exact R_idxW (E:=env) (i:=(u:Int)) rfl rfl rfl rfl hx ⟨by omega,by omega⟩) ?_
 refine t1 4 ?_
 refine sow (sz:=3) (m:=3 * u) (N:=k + 1) (xs:=rcs qs (hsE nS2 es)) (vs:=rrow 0 (n1,d1)) (by omega) ?_ (h1:=one_cons rfl (one_cons hn1 (one_cons hd1 one_nil)))
 refine nl ?_
 refine te (fun w' hw=>⟨lpt_at memA hw,pt_at memA hw,_,(has_oww (e:=TRt) (sz:=3) (v:=sv) (n:=k + 1) memA).P w' hw⟩) ?_
 refine t0 ?_
 refine id ?_
 repeat' first|(refine gca ?_;first|(refine ca hPl ?_;rintro _ _ ⟨bp,rfl,rfl⟩))|refine lda (cs:=[I n,v]) ?_|refine sq ?_|refine rg ?_|refine xc ?_|refine nl ?_|refine bk ?_
 refine TC.im (gow_set (es:=es) (qs:=qs) (by omega) (i:=u) hul 0 n1 d1 fitA) ?_
 rw [hrs,← psN_zero n u x]
 refine TC.fact (fun w hw i hi=>fr_one (hs:=hsE z ez) (qs:=x) (has_grB hgr memA).2 hhl (i:=i) hi w hw) fun hone=>?_
 have hrun2:=@SeqP.run _ _ _ _ _ _ _ (places1_seq bp n v x (hsE z ez) hhl hql hn hone)
 refine TC.rangeI (l0:=l2) (rec0:=rec) memA [lbd [lpt c9 [sv] TRs,lpt c10 [I u] TLI,vfr (hsE z ez) x],lbd [lpt bp [I n,v] TGr,vwf v ((n + 1) * (n + 1)) (rcs x (hsE z ez))]] [oww TRt 3 sv (k + 1) (rcs (qs.set u (psN n u x 0)) (hsE nS2 (es.set u (some (n1,d1))))),gow (es.set u (some (n1,d1))) (qs.set u (psN n u x 0))] (fun l3 rec3 pend B'=>∃ p:HV,B' = [oww TRt 3 sv (k + 1) (rcs (qs.set u (psN n u x ((n + 1) * (n + 1)))) (hsE nS2 (es.set u (some p)))),gow (es.set u (some p)) (qs.set u (psN n u x ((n + 1) * (n + 1))))]∧pend = none) ?_ ?_ (hp:=has1 (lbd_of (has1 hasA (has1 hasA (has1 (has_grB hgr memA).2 has0)))) (has1 (lbd_of (has1 hasA (has1 (has_grB hgr memA).1 has0))) has0))
 rotate_left
 ·rintro l3 rec3 pend B' ⟨p,rfl,rfl⟩
  rw [psN_all]
  have hsp:=hset p
  generalize stuckR n u x = sr' at *
  show TX env _ _ _ _ _ _
  repeat' first|refine xb ?_
  exact yn ⟨[lrc l2 rec .ready none,dfr Dm,oww TRt 3 sv (k + 1) (rcs (qs.set u sr') (hsE nS2 (es.set u (some p)))),gow (es.set u (some p)) (qs.set u sr')],[grB n v x ez z],rfl,.inl ⟨rfl,⟨qs.set u sr',es.set u (some p)⟩,rfl,hsp⟩⟩
 intro rec3 l3 hr3
 refine Tr.unb (hrun2 (α:=SkP) (lbd [lpt c9 [sv] TRs,lpt c10 [I u] TLI,vfr (hsE z ez) x]) l3 (fun g=>bnd [lrc l3 rec3 .ready none,oww TRt 3 sv (k + 1) (rcs (qs.set u (psN n u x g.i)) (hsE nS2 (es.set u (some g.p)))),gow (es.set u (some g.p)) (qs.set u (psN n u x g.i))]) (fun g i=>g.i = i∧g.p.1.oneCell' = true∧g.p.2.oneCell' = true) (fun _=>False) ⟨0,(n1,d1)⟩ ⟨rfl,hn1,hd1⟩ (fun p=>bnd_nob (by repeat (first | exact nb0 | refine nb1 ?_))) ?_) ?_
 rotate_left
 ·rintro _ _ ⟨g,rfl,⟨hi,_⟩ | h⟩
  ·exact ⟨_,rfl,.ready,none,_,rfl,by decide,g.p,by rw [hi],rfl⟩
  ·exact h.elim
 clear hrun2 hset hW hPl
 rintro ⟨i,p⟩ i' ⟨hii,hp1,hp2⟩ hi
 dsimp only at hii hp1 hp2
 subst hii
 refine Ty.bnd ?_
 refine Ty.pre (pre:=[lpt c9 [sv] TRs,lpt c10 [I u] TLI,vfr (hsE z ez) x]) ?_ (has_lbds (C:=[lpt c9 [sv] TRs,lpt c10 [I u] TLI,vfr (hsE z ez) x]) (List.Mem.head _) _ (by repeat (first | exact has00 | refine has01 ?_)) fun c hc=>hc) (by repeat (first | exact has00 | refine has01 ?_))
 refine Ty.intro env hr3 (by repeat (first | exact has00 | refine has01 ?_)) fun w2=>?_
 have hPi:=hPF i (by omega)
 have hXi:=hXF i hi
 have hin:=fun h=>psN_in (n:=n) (u:=u) (x:=x) (i:=i) h
 have hout:=fun h=>psN_out (n:=n) (u:=u) (x:=x) (i:=i) h
 have hgot:=fun (F:List Ch) (h:vfr (hsE z ez) x ∈ F)=>has_fr (has_mem h) hhl (i:=i) (by rw [hql];exact hi)
 have hx1:=hone i (by rw [hql];exact hi)
 clear hPF hXF hone
 dsimp only
 generalize (hsE z ez).getD i nS2 = hx at *
 obtain ⟨x1,x2⟩:=hx
 dsimp only at hx1 hgot
 obtain ⟨hx1,hx2⟩:=hx1
 generalize i / (n + 1) = c at *
 generalize i % (n + 1) = r at *
 generalize x.getD i 0 = y at *
 obtain ⟨q0,hq0⟩ : ∃ q0,q0 = psN n u x i:=⟨_,rfl⟩
 rw [← hq0] at hPi ⊢
 simp only [← hq0] at hin hout
 by_cases hc:u = 0∨r = 0
 rotate_left
 ·have ho:=hout hc
  repeat' first|refine al fun c13=>?_|refine srz ?_ (hj:=Nat.le_of_ble_eq_true rfl)|refine xbeg ?_|refine ixa (m:=2) (i:=1) ?_|(refine wo ?_;first|(refine ao ?_;first|refine oa ?_)|refine oa ?_|refine ld ?_|refine ldl ?_|refine gy ?_|(refine gsi (fun hB=>?_) (fun hB=>?_) <;> try (exfalso;omega)))|(refine gc ?_;first|(refine ci (fun hB=>?_) (fun hB=>?_) <;> try (exfalso;omega)))|refine sq ?_|refine rg ?_|refine xc ?_|refine nl ?_|refine sk ?_|refine bk ?_|refine xb ?_
  rw [← ho]
  exact yn ⟨⟨i + 1,p⟩,rfl,.inl ⟨rfl,rfl,hp1,hp2⟩⟩
 have hi1:=hin hc
 obtain ⟨pa,pb⟩:=p
 dsimp only at hp1 hp2 ⊢
 have hAdd:=fun lv=>FAdd2_tr q0 y lv pa pb x1 x2 hPi hXi
 rw [← hi1] at hAdd
 obtain ⟨q1,hq1⟩ : ∃ q1,q1 = psN n u x (i + 1):=⟨_,rfl⟩
 rw [← hq1] at hAdd
 unfold FQ2 at hAdd
 have hQs:(qs.set u q0).set u q1 = qs.set u q1:=List.set_set ..
 have hEs:∀ p',(es.set u (some (pa,pb))).set u p' = es.set u p':=fun p'=>List.set_set ..
 have hQl:(qs.set u q0).length = k + 1:=by rw [List.length_set,hqs]
 have hEl:(es.set u (some (pa,pb))).length = k + 1:=by rw [List.length_set,hes]
 have hQu:(qs.set u q0).getD u 0 = q0:=by rw [getD_setR _ _ _ _ hul,if_pos rfl]
 have hEu:(es.set u (some (pa,pb))).getD u none = some (pa,pb):=by rw [getD_setO _ _ _ _ (by omega),if_pos rfl]
 generalize qs.set u q0 = Q at *
 generalize es.set u (some (pa,pb)) = ES at *
 have hrow:=rcs_row (hs:=hsE nS2 ES) (qs:=Q) (by rw [hsE_len,hEl,hQl]) (i:=u) (by omega)
 rw [hQu,hsE_get (by omega),hEu] at hrow
 have hrs2:=fun (q':Rat) (p':HV)=>rcs_setS (z:=nS2) (es:=ES) (qs:=Q) (by omega) (i:=u) (by omega) q' p'
 have hgs:=fun (F:List Ch) (h:gow ES Q ∈ F)=>has_gowS (es:=ES) (qs:=Q) (by omega) h (i:=u) (by omega) hEu
 rw [hQu] at hgs
 dsimp only [Option.getD] at hrow
 dsimp only at hgs
 clear hin hout hrs hXi hPi
 by_cases hu0:u = 0
 ·repeat' first|refine al fun c13=>?_|refine srz ?_ (hj:=Nat.le_of_ble_eq_true rfl)|refine xbeg ?_|refine ixa (m:=2) (i:=1) ?_|(refine wo ?_;first|(refine ao ?_;first|refine oa ?_)|refine oa ?_|refine ldl ?_|refine gn ?_|(refine gsi (fun hB=>?_) (fun hB=>?_) <;> try (exfalso;omega)))|(refine gc ?_;first|refine ct ?_)|refine sq ?_|refine rg ?_|refine xc ?_|refine nl ?_|refine bk ?_
  refine rs (fun w'=>w'.heap[c9]? = some (.cells [sv].toArray TRs (0,0))∧w'.heap[c10]? = some (.cells [I u].toArray TLI (0,0))∧w'.heap[c13]? = some (.cells (rrow y (x1,x2)).toArray TRt (0,0))∧∃ xs,SlW w' sv (k + 1) xs) ?_ (fun w' hw=>⟨lpt_at memA hw,lpt_at memA hw,pt_at memA hw,_,(has_oww (e:=TRt) (sz:=3) (v:=sv) (n:=k + 1) memA).P w' hw⟩)
  refine krl 0 (cs:=[sv]) (fun w' h=>h.1) ?_
  refine krl 1 (cs:=[I u]) (fun w' h=>h.2.1) ?_
  refine krl 2 (cs:=[sv]) (fun w' h=>h.1) ?_
  refine krl 3 (cs:=[I u]) (fun w' h=>h.2.1) ?_
  refine kr 4 (v:=.pointer (some (adr sv (3 * u)))) (hi:=rfl) (fun w' h=>by obtain ⟨xs,hx⟩:=h.2.2.2;exact R_idxW (E:=env) (i:=(u:Int)) rfl rfl rfl rfl hx ⟨by omega,by omega⟩) ?_
  refine kr 6 (v:=.agg (rrow y (x1,x2)).toArray) (fun w' h=>R_loadA (E:=env) (vs:=rrow y (x1,x2)) rfl rfl rfl rfl h.2.2.1 rfl rfl) ?_
  refine t1 5 ?_
  refine ldaw (N:=k + 1) (xs:=rcs Q (hsE nS2 ES)) (m:=3 * u) hrow ?_ (hm:=has_oww memA)
  refine nl ?_
  refine te (fun w' hw=>⟨lpt_at memA hw,lpt_at memA hw,pt_at memA hw,_,(has_oww (e:=TRt) (sz:=3) (v:=sv) (n:=k + 1) memA).P w' hw⟩) ?_
  refine t1 7 ?_
  refine slws (sz:=3) (xs:=rrow q0 (pa,pb) ++ rrow y (x1,x2)) fun g2=>?_
  refine nl ?_
  refine te (fun w' hw=>⟨lpt_at memA hw,lpt_at memA hw,pt_at memA hw,_,(has_oww (e:=TRt) (sz:=3) (v:=sv) (n:=k + 1) memA).P w' hw⟩) ?_
  refine t1 8 ?_
  refine ca (hAdd _) ?_ (hp:=has1 (has_oww memA) (has1 (hgs _ memA).1 (has1 (hgs _ memA).2 (has1 (hgot _ memA).1 (has1 (hgot _ memA).2 has0)))))
  rintro _ _ ⟨n2,d2,rfl,hn2,hd2,rfl⟩
  refine nl ?_
  refine te (fun w' hw=>⟨lpt_at memA hw,lpt_at memA hw,pt_at memA hw,_,(has_oww (e:=TRt) (sz:=3) (v:=sv) (n:=k + 1) memA).P w' hw⟩) ?_
  refine kra 9 ?_
  refine kra 10 ?_
  refine kra 11 ?_
  refine kr 12 (v:=.pointer (some (adr sv (3 * u)))) (hi:=rfl) (fun w' h=>by obtain ⟨xs,hx⟩:=h.2.2.2;exact R_idxW (E:=env) (i:=(u:Int)) rfl rfl rfl rfl hx ⟨by omega,by omega⟩) ?_
  refine t1 13 ?_
  refine sow (sz:=3) (m:=3 * u) (N:=k + 1) (xs:=rcs Q (hsE nS2 ES)) (vs:=rrow q1 (n2,d2)) (by omega) ?_ (h1:=one_cons rfl (one_cons hn2 (one_cons hd2 one_nil)))
  refine nl ?_
  refine te (fun w' hw=>⟨lpt_at memA hw,lpt_at memA hw,pt_at memA hw,_,(has_oww (e:=TRt) (sz:=3) (v:=sv) (n:=k + 1) memA).P w' hw⟩) ?_
  refine t0 ?_
  repeat' first|refine xb ?_
  refine TX.im (gow_set (es:=ES) (qs:=Q) (by rw [hEl,hQl]) (i:=u) (by rw [hQl];exact hu) q1 n2 d2 fitA) ?_
  rw [hrs2 q1 (n2,d2),hQs,hEs,hq1]
  exact yn ⟨⟨i + 1,(n2,d2)⟩,rfl,.inl ⟨rfl,rfl,hn2,hd2⟩⟩
 have hr0:r = 0:=hc.resolve_left hu0
 repeat' first|refine al fun c13=>?_|refine srz ?_ (hj:=Nat.le_of_ble_eq_true rfl)|refine xbeg ?_|refine ixa (m:=2) (i:=1) ?_|(refine wo ?_;first|(refine ao ?_;first|refine oa ?_)|refine oa ?_|refine ld ?_|refine ldl ?_|refine gy ?_|(refine gsi (fun hB=>?_) (fun hB=>?_) <;> try (exfalso;omega)))|(refine gc ?_;first|(refine ci (fun hB=>?_) (fun hB=>?_) <;> try (exfalso;omega)))|refine sq ?_|refine rg ?_|refine xc ?_|refine nl ?_|refine bk ?_
 refine rs (fun w'=>w'.heap[c9]? = some (.cells [sv].toArray TRs (0,0))∧w'.heap[c10]? = some (.cells [I u].toArray TLI (0,0))∧w'.heap[c13]? = some (.cells (rrow y (x1,x2)).toArray TRt (0,0))∧∃ xs,SlW w' sv (k + 1) xs) ?_ (fun w' hw=>⟨lpt_at memA hw,lpt_at memA hw,pt_at memA hw,_,(has_oww (e:=TRt) (sz:=3) (v:=sv) (n:=k + 1) memA).P w' hw⟩)
 refine krl 0 (cs:=[sv]) (fun w' h=>h.1) ?_
 refine krl 1 (cs:=[I u]) (fun w' h=>h.2.1) ?_
 refine krl 2 (cs:=[sv]) (fun w' h=>h.1) ?_
 refine krl 3 (cs:=[I u]) (fun w' h=>h.2.1) ?_
 refine kr 4 (v:=.pointer (some (adr sv (3 * u)))) (hi:=rfl) (fun w' h=>by obtain ⟨xs,hx⟩:=h.2.2.2;exact R_idxW (E:=env) (i:=(u:Int)) rfl rfl rfl rfl hx ⟨by omega,by omega⟩) ?_
 refine kr 6 (v:=.agg (rrow y (x1,x2)).toArray) (fun w' h=>R_loadA (E:=env) (vs:=rrow y (x1,x2)) rfl rfl rfl rfl h.2.2.1 rfl rfl) ?_
 refine t1 5 ?_
 refine ldaw (N:=k + 1) (xs:=rcs Q (hsE nS2 ES)) (m:=3 * u) hrow ?_ (hm:=has_oww memA)
 refine nl ?_
 refine te (fun w' hw=>⟨lpt_at memA hw,lpt_at memA hw,pt_at memA hw,_,(has_oww (e:=TRt) (sz:=3) (v:=sv) (n:=k + 1) memA).P w' hw⟩) ?_
 refine t1 7 ?_
 refine slws (sz:=3) (xs:=rrow q0 (pa,pb) ++ rrow y (x1,x2)) fun g2=>?_
 refine nl ?_
 refine te (fun w' hw=>⟨lpt_at memA hw,lpt_at memA hw,pt_at memA hw,_,(has_oww (e:=TRt) (sz:=3) (v:=sv) (n:=k + 1) memA).P w' hw⟩) ?_
 refine t1 8 ?_
 refine ca (hAdd _) ?_ (hp:=has1 (has_oww memA) (has1 (hgs _ memA).1 (has1 (hgs _ memA).2 (has1 (hgot _ memA).1 (has1 (hgot _ memA).2 has0)))))
 rintro _ _ ⟨n2,d2,rfl,hn2,hd2,rfl⟩
 refine nl ?_
 refine te (fun w' hw=>⟨lpt_at memA hw,lpt_at memA hw,pt_at memA hw,_,(has_oww (e:=TRt) (sz:=3) (v:=sv) (n:=k + 1) memA).P w' hw⟩) ?_
 refine kra 9 ?_
 refine kra 10 ?_
 refine kra 11 ?_
 refine kr 12 (v:=.pointer (some (adr sv (3 * u)))) (hi:=rfl) (fun w' h=>by obtain ⟨xs,hx⟩:=h.2.2.2;exact R_idxW (E:=env) (i:=(u:Int)) rfl rfl rfl rfl hx ⟨by omega,by omega⟩) ?_
 refine t1 13 ?_
 refine sow (sz:=3) (m:=3 * u) (N:=k + 1) (xs:=rcs Q (hsE nS2 ES)) (vs:=rrow q1 (n2,d2)) (by omega) ?_ (h1:=one_cons rfl (one_cons hn2 (one_cons hd2 one_nil)))
 refine nl ?_
 refine te (fun w' hw=>⟨lpt_at memA hw,lpt_at memA hw,pt_at memA hw,_,(has_oww (e:=TRt) (sz:=3) (v:=sv) (n:=k + 1) memA).P w' hw⟩) ?_
 refine t0 ?_
 repeat' first|refine xb ?_
 refine TX.im (gow_set (es:=ES) (qs:=Q) (by rw [hEl,hQl]) (i:=u) (by rw [hQl];exact hu) q1 n2 d2 fitA) ?_
 rw [hrs2 q1 (n2,d2),hQs,hEs,hq1]
 exact yn ⟨⟨i + 1,(n2,d2)⟩,rfl,.inl ⟨rfl,rfl,hn2,hd2⟩⟩
end Go.Art
namespace Go.Art
open Go Go.Proofs Go.RowKit
def slSubW (sz:Nat):Value→Nat→Nat→Value
 | .slice a _ cap,lo,hi=>.slice (if cap = lo then a else a.map (·.add (lo * sz))) (hi - lo) (cap - lo)
 | v,_,_=>v
theorem SlW.sub {w:World} {v:Value} {n:Nat} {xs:List Value} (h:SlW w v n xs) {sz lo:Nat} (h1:lo ≤ n) (hx:xs.length ≤ n * sz):SlW w (slSubW sz v lo n) (n - lo) (xs.drop (lo * sz)):=by
 obtain ⟨a,cap,rfl,h2,h3,h4,h5⟩:=h
 refine ⟨if cap = lo then a else a.map (·.add (lo * sz)),cap - lo,rfl,by omega,by omega,fun h6=>?_,fun i u hi=>?_⟩
 ·obtain ⟨x,rfl⟩:=h4 (by omega)
  rw [if_neg (by omega)]
  exact ⟨_,rfl⟩
 ·rw [List.getElem?_drop] at hi
  obtain ⟨x,rfl,hc⟩:=h5 _ u hi
  have hlt:=(List.getElem?_eq_some_iff.1 hi).1
  have hne:¬ cap = lo:=fun e=>by
   have:lo = n:=by omega
   subst this
   omega
  rw [if_neg hne]
  refine ⟨x.add (lo * sz),rfl,?_⟩
  rw [Deep.add_add];exact hc
theorem has_subW {F:List Ch} {e:TypeId} {sz n lo m:Nat} {v:Value} {xs ys:List Value} (h:oww e sz v n xs ∈ F) (hx:xs.length ≤ n * sz) (hlo:lo ≤ n) (hm:n - lo = m) (hy:xs.drop (lo * sz) = ys):Has F (vwf (slSubW sz v lo n) m ys):=by
 subst hm hy
 refine ⟨fun w hw=>(OwnV.slw (hw.h (oww e sz v n xs) h)).sub hlo hx,fun _ h=>h,fun _ h=>h,fun b hb=>⟨_,h,?_⟩⟩
 rcases hb with hb | hb | ⟨_,hb⟩
 ·exact hb.elim
 ·exact hb.elim
 ·refine .inl ?_
  show v.ownBlock = some b
  cases v <;> try exact hb
  rename_i a l c
  cases a with
  | none=>simp [slSubW,Value.ownBlock] at hb
  | some a=>
   simp only [slSubW] at hb
   split at hb
   ·exact hb
   ·simp only [Option.map_some,Value.ownBlock,Option.some.injEq] at hb ⊢
    rw [← hb,add_block]
theorem ofr_uncons (h:HV) (hs:List HV) (q:Rat) (qs:List Rat) (F:List Ch):Im (ofr (h :: hs) (q :: qs) :: F) (own T64 h.2 (Us (dg q.den)) :: own T64 h.1 (Us (dg q.num.natAbs)) :: ofr hs qs :: F):=by
 show Im (owl T64 wU (h.1 :: h.2 :: hpc hs) (Zs (dg q.num.natAbs) :: Zs (dg q.den) :: pcl qs) :: F) (own T64 h.2 (Us (dg q.den)) :: own T64 h.1 (Us (dg q.num.natAbs)) :: owl T64 wU (hpc hs) (pcl qs) :: F)
 rw [Us_eq,Us_eq]
 refine (owl_uncons F).trans ?_
 refine (Im.perm (List.Perm.swap _ _ _)).trans ((owl_uncons _).trans ?_)
 exact Im.cons _ (Im.perm (List.Perm.swap _ _ _))
theorem ofr_pop {h:HV} {hs:List HV} {q:Rat} {qs:List Rat} {A F:List Ch} (hf:Fit A [ofr (h :: hs) (q :: qs)] F):Im A (own T64 h.2 (Us (dg q.den)) :: own T64 h.1 (Us (dg q.num.natAbs)) :: ofr hs qs :: F):=Im.trans hf (ofr_uncons h hs q qs F)
theorem foldl_sR:∀ (l:List Rat) (a:Rat),l.foldl (· + ·) a = a + sR id l
 | [],a=>(Rat.add_zero a).symm
 | x :: l,a=>by rw [List.foldl_cons,foldl_sR l];show a + x + sR id l = a + (x + sR id l);rw [Rat.add_assoc]
def failQ (t:List Int) (k n:Nat):Rat:=sR (fun u=>stT t k n (u + 1)) (List.range k)
theorem stL_drop (t:List Int) (k n:Nat):(stL t k n).drop 1 = (List.range k).map fun u=>stT t k n (u + 1):=by
 unfold stL
 rw [List.range_succ_eq_map,List.map_cons,List.drop_succ_cons,List.drop_zero,List.map_map]
 rfl
theorem stL_part (t:List Int) (k n i:Nat) (hi:i ≤ k):(((stL t k n).drop 1).take i).foldl (· + ·) 0 = sR (fun u=>stT t k n (u + 1)) (List.range i):=by
 rw [stL_drop,foldl_sR,Rat.zero_add,← List.map_take,List.take_range,Nat.min_eq_left hi,sR_map]
 rfl
theorem part_nat {t:List Int} {k:Nat} (hz:solE t k = 0) (n i:Nat) (hi:i ≤ k):∃ a,a ≤ oneS t k ^ n∧sR (fun u=>stT t k n (u + 1)) (List.range i) = (a:Rat) / ((oneS t k ^ n:Nat):Rat):=by
 have h1:=ripple_tab hz (fun u=>if 0 < u∧u ≤ i then 1 else 0) n
 have h2:=natG_tG (fun ls=>decide (0 < (largeL k ls).length∧(largeL k ls).length ≤ i)) (itemS t k) (oneS_pos hz) n [] 1
 have h3:=natG_leW (W:=fun ls=>decide (0 < (largeL k ls).length∧(largeL k ls).length ≤ i)) (V:=fun _=>true) (fun _ _=>rfl) (itemS t k) n [] 1
 rw [natG_all (itemS_sum hz),Nat.one_mul] at h3
 generalize natG (fun ls=>decide (0 < (largeL k ls).length∧(largeL k ls).length ≤ i)) (itemS t k) n [] 1 = a at *
 refine ⟨a,h3,?_⟩
 rw [sR_shift,if_neg (fun h=>Nat.lt_irrefl 0 h.1)] at h1
 obtain ⟨m,rfl⟩:=Nat.exists_eq_add_of_le hi
 rw [List.range_add,sR_app,sR_congr (l:=List.range i) (g:=fun u=>stT t (i + m) n (u + 1)) fun u hu=>by rw [if_pos ⟨Nat.succ_pos u,List.mem_range.1 hu⟩,Rat.one_mul],
  sR_congr (l:=(List.range m).map (i + ·)) (g:=fun _=>0) fun u hu=>by obtain ⟨a,_,rfl⟩:=List.mem_map.1 hu;rw [if_neg (by omega),Rat.zero_mul],sR_zero] at h1
 rw [tG_same (item_ev t (i + m))] at h2
 simp only [List.nil_append,decide_eq_true_eq] at h2
 rw [← h1] at h2
 have h0:=nz (Nat.ne_of_gt (Nat.pow_pos (n:=n) (Nat.pos_of_ne_zero (oneS_pos hz))))
 push_cast at h0 ⊢
 rw [h2,show ((1:Nat):Rat) = 1 from rfl]
 grind
theorem part_FB {t:List Int} {k n i:Nat} (hz:solE t k = 0) (hk:k ≤ 40) (hl:t.length ≤ 12) (hn:n ≤ 12) (hi:i ≤ k):FB (sR (fun u=>stT t k n (u + 1)) (List.range i)) 8589934592:=by
 obtain ⟨a,ha,he⟩:=part_nat hz n i hi
 rw [he]
 have h1:=oneS_lt hz hk hl
 have h2:oneS t k ^ n < 18446744073709551616 ^ 121:=by
  refine Nat.lt_of_le_of_lt (Nat.pow_le_pow_left (Nat.le_of_lt h1) n) ?_
  rw [← Nat.pow_mul]
  exact Nat.pow_lt_pow_right (by decide) (by omega)
 exact (FB_nat (B:=121) (Nat.ne_of_gt (Nat.pow_pos (Nat.pos_of_ne_zero (oneS_pos hz)))) (Nat.lt_of_le_of_lt ha h2) h2).le (by decide)
theorem st_FB {t:List Int} {k n u:Nat} (hz:solE t k = 0) (hk:k ≤ 40) (hl:t.length ≤ 12) (hn:n ≤ 12) (hu:u ≤ k):FB (stT t k n u) 8589934592:=by
 obtain ⟨B,hB⟩ : ∃ B,B = 20000:=⟨_,rfl⟩
 have hB9:B ≤ 8589934592:=by omega
 obtain ⟨b1,b2,b3,b4⟩:=lvT_facts hz hk hl hn hB (j:=k - u) (by omega)
 unfold stT
 rw [← psN_all]
 exact (FB_le1 (psN_fr b1 (Nat.le_refl _)) b3 (Rat.le_trans (psN_le b1 (Nat.le_refl _)) b2) b4).le hB9
section
variable {P:Program} {E:Env P} {n:Sh} {X:Cx} {s:List K} {fr:Fr} {A A':List Ch} {ops:Array Oper} {rest:List Oper} {d m N sz by_:Nat} {ty t t' el:TypeId} {pos:String} {after:Array Edge} {v u z:Value} {x y:Operand} {xs vs:List Value} {dt:TypeDesc} {k1 k':IntKind} {w:World}
theorem slw1 {lo:Nat} (k:TO E n X s ops rest ((d,slSubW sz v lo N) :: fr) A) (hlo:lo ≤ N) (hx:ev fr x = some v:=by rfl) (hy:ev fr y = some (.int k1 lo):=by rfl) (hm:Has A (vwf v N xs):=by exact hasA) (ht:lk E.und t = some (.slice el):=by rfl) (he:lk E.inf el = some (z,sz,by_):=by rfl) (hd:Nat.blt d n.n = true:=by rfl) :
  TO E n X s ops (⟨some d,.slice t x (some y) none none,ty,pos,after,none⟩ :: rest) fr A:=TO.val (v:=slSubW sz v lo N) (fun w h=>⟨fun a ha _ _ _ _=>by
 obtain ⟨a0,cap,rfl,h2,h3,_⟩:=(hm.P w h:SlW w v N xs)
 obtain ⟨inf,hi',_,hs,_⟩:=E.info he
 have hu:=run_underlying (P:=P) (E.un ht) w
 have hr:(Instr.sliceAt t (.slice a0 N cap) (some (.int k1 lo)) none none).run P w = .ok (slSubW sz (.slice a0 N cap) lo N) w:=by
  simp [Instr.sliceAt,Instr.slice,hu,Instr.sliceBounds,Instr.sliceBound,asIntOf,sizeOf,typeInfo,hi',hs,slSubW,hlo]
 simp only [execOp,ha.ev hx]
 simp [ha.ev hy,hr]⟩) k hd
end
def failV (t:List Int) (k n:Int):Fr3 × Int:=if ripE t k n = 0 then (rqf (failQ t k.toNat n.toNat),0) else (rqn,ripE t k n)
attribute [local irreducible] Fit pt own ro vw mpc lpt vels rels mow lrc dfr
attribute [local irreducible] lmp lme mit velg relg bnd owl dfrl gow shB grB
theorem Stuck_err (tv:Value) (t:List Int) (k n:Int) (h:ripE t k n ≠ 0):Tr Tryz.prog 18 [tv,I k,I n] [vw tv (Is t)] [] fun u D=>u = tup2 nS (I (ripE t k n))∧D = []:=by
 have hR:=riprefuses_tr tv t k n
 generalize ripE t k n = e at *
 refine Tr.enter env _ Tryz.func18 (by kernel_rfl) rfl Tryz.ntmps18 rfl (by repeat (first | exact has00 | refine has01 ?_)) fun w0=>?_
 repeat' first|(refine gca ?_;first|(refine ca hR ?_;rintro _ _ ⟨rfl,rfl⟩))|(refine wo ?_;first|(refine ao ?_;first|refine oa ?_)|refine oa ?_)|(refine gc ?_;first|(refine cn (fun hB=>?_) (fun hB=>?_) <;> try (exfalso;omega)))|refine sq ?_|refine rg ?_|refine xc ?_|refine nl ?_|refine rt ?_
 exact r2 ⟨rfl,rfl⟩
theorem Fail_ok (tv:Value) (htv:tv.oneCell' = true) (t:List Int) (k n:Nat) (hz:solE t k = 0) (hk:k ≤ 40) (hl:t.length ≤ 12) (hn:n ≤ 12):Tr Tryz.prog 20 [tv,I k,I n] [vw tv (Is t)] [] (FQ2 (failQ t k n) 0):=by
 have hS:=Stuck_tr tv htv t k n hz hk hl hn
 have hF1:=fun i (hi:i < k)=>st_FB hz hk hl hn (u:=i + 1) hi
 have hF2:=fun i (hi:i ≤ k)=>part_FB hz hk hl hn hi
 have hpart:=stL_part t k n
 have hget:=fun i (hi:i < k)=>stL_get (t:=t) (n:=n) (i:=i + 1) (Nat.succ_lt_succ hi)
 have hLL:=stL_len t k n
 have hq:failQ t k n = ((stL t k n).drop 1).foldl (· + ·) 0:=by
  have:=hpart k (Nat.le_refl k)
  rw [List.take_of_length_le (by rw [List.length_drop,hLL];omega)] at this
  exact this.symm
 rw [hq]
 clear hq
 generalize stL t k n = LL at *
 cases LL with
 | nil=>simp at hLL
 | cons q0 qs=>
 have hql:qs.length = k:=by simpa using hLL
 rw [List.drop_succ_cons,List.drop_zero] at hpart ⊢
 have hAdd:=fun v hs (hl':hs.length = qs.length)=>FAdd_tr v qs hs hl' (fun i hi=>by
  have:=hget i (by omega)
  rw [List.getD_cons_succ] at this
  rw [this];exact hF1 i (by omega)) (fun i hi=>by rw [hpart i (by omega)];exact hF2 i (by omega))
 clear hF1 hF2 hpart hget
 unfold FQ2 at hAdd ⊢
 rw [hql] at hAdd
 generalize qs.foldl (· + ·) (0:Rat) = p at *
 refine Tr.enter env _ Tryz.func20 (by kernel_rfl) rfl Tryz.ntmps20 rfl (by repeat (first | exact has00 | refine has01 ?_)) fun w0=>?_
 repeat' first|refine al fun c=>?_|refine srz ?_|refine (ca hS ?_) ; rintro _ _ ⟨v,hs,rfl,hv,hhs,rfl⟩|(refine wo ?_;first|(refine ao ?_;first|refine oa ?_)|refine oa ?_)|(refine gc ?_;first|refine cf ?_)|refine sq ?_|refine rg ?_|refine xc ?_|refine nl ?_|refine sk ?_
 obtain ⟨h0,hr,rfl⟩ : ∃ h0 hr,hs = h0 :: hr:=by cases hs with | nil=>simp at hhs | cons a b=>exact ⟨a,b,rfl⟩
 have hrl:hr.length = qs.length:=by simp at hhs;omega
 refine TO.im (ofr_pop (h:=h0) (hs:=hr) (q:=q0) (qs:=qs) fitA) ?_
 have hlen:(rcs (q0 :: qs) (h0 :: hr)).length ≤ (k + 1) * 3:=by rw [rcs_len (by simpa using hrl),List.length_cons,hql];exact Nat.le_refl _
 have hdr:(rcs (q0 :: qs) (h0 :: hr)).drop (1 * 3) = rcs qs hr:=rfl
 repeat' first|(refine gca ?_;first|(refine ca (hAdd _ hr (by omega)) ?_ (hp:=has1 (has_subW (e:=TRt) (sz:=3) memA hlen (by omega) (by omega) hdr) (has1 (has_ofr hrl memA) has0));rintro _ _ ⟨vn,vd,rfl,hvn,hvd,rfl⟩))|refine slw1 (sz:=3) (lo:=1) (N:=k + 1) ?_ (Nat.le_add_left 1 k) (hm:=has_oww memA)|refine srz ?_|(refine wo ?_;first|refine oa ?_)|refine xc ?_|refine nl ?_|refine rt ?_
 exact rca (cs:=[.bool (decide (p.num < 0)),vn,vd]) (vs:=[.bool (decide (p.num < 0)),vn,vd]) (T:=TRt) ⟨vn,vd,rfl,hvn,hvd,rfl⟩
theorem Fail_err (tv:Value) (t:List Int) (k n:Int) (h:ripE t k n ≠ 0):Tr Tryz.prog 20 [tv,I k,I n] [vw tv (Is t)] [] (FW (rqn,ripE t k n)):=by
 have hS:=Stuck_err tv t k n h
 refine Tr.mono (R:=fun u D=>u = tup2 rv0 (I (ripE t k n))∧D = [own T64 nS (Us []),own T64 nS (Us [])]) ?_ fun u D h=>FW.of0 h
 generalize ripE t k n = e at *
 refine Tr.enter env _ Tryz.func20 (by kernel_rfl) rfl Tryz.ntmps20 rfl (by repeat (first | exact has00 | refine has01 ?_)) fun w0=>?_
 repeat' first|(refine gca ?_;first|(refine ca hS ?_;rintro _ _ ⟨rfl,rfl⟩))|refine al fun c=>?_|refine bdz ?_|refine srz ?_|(refine wo ?_;first|(refine ao ?_;first|refine oa ?_)|refine oa ?_)|(refine gc ?_;first|(refine cn (fun hB=>?_) (fun hB=>?_) <;> try (exfalso;omega)))|refine sq ?_|refine rg ?_|refine xc ?_|refine nl ?_|refine rt ?_
 refine TX.im (own_nil T64 _) (TX.im (own_nil T64 _) ?_)
 exact rca (cs:=[.bool false,nS,nS]) (vs:=[.bool false,nS,nS]) (T:=TRt) ⟨rfl,rfl⟩
theorem Fail_tr (tv:Value) (htv:tv.oneCell' = true) (t:List Int) (k n:Int) (hk:k ≤ 40∨1024 < k) (hl:t.length ≤ 12) (hn:n ≤ 12∨4096 < n):Tr Tryz.prog 20 [tv,I k,I n] [vw tv (Is t)] [] (FW (failV t k n)):=by
 unfold failV
 by_cases h:ripE t k n = 0
 ·rw [if_pos h]
  obtain ⟨h1,h2,hz⟩:=ripE_zero h
  obtain ⟨kn,rfl⟩ : ∃ kn:Nat,k = kn:=⟨k.toNat,by omega⟩
  obtain ⟨nn,rfl⟩ : ∃ nn:Nat,n = nn:=⟨n.toNat,by omega⟩
  rw [Int.toNat_natCast,Int.toNat_natCast]
  exact Fail_ok tv htv t kn nn hz (by omega) hl (by omega)
 ·rw [if_neg h]
  exact Fail_err tv t k n h
end Go.Art
set_option maxRecDepth 4000
namespace Go.Art
open Go Go.Proofs Go.RowKit
attribute [local irreducible] Fit pt own ro vw mpc lpt vels rels mow lrc dfr
attribute [local irreducible] lmp lme mit
abbrev Bs (l:List Bool):List Value:=l.map .bool
section
variable {P:Program} {E:Env P} {n:Sh} {X:Cx} {s:List K} {fr:Fr} {A A':List Ch} {ops:Array Oper} {rest:List Oper} {d:Nat} {ty t el:TypeId} {pos:String} {after:Array Edge} {v z:Value} {x y:Operand} {by_:Nat}
end
def unk (kb:List Bool) (l:List Int):List Int:=l.filter fun x=>!kb.getD x.toNat false
def lastL (kb:List Bool) (l:List Int):Int:=match unk kb l with
 | [x]=>x
 | _=>-1
def falses (kb:List Bool):Nat:=kb.countP (fun b=>!b)
structure ClI (k:Int) (ls:List (List Int)) (kb:List Bool):Prop where
 len:kb.length = k.toNat
 kn:∀ x,0 ≤ x→x < k→kb.getD x.toNat false = true→Kn ls x
structure ClG where
 i:Nat
 kb:List Bool
 more:Bool
end Go.Art
namespace Go.Art
open Go Go.Proofs Go.RowKit
structure RuG2 where
 r:Nat
 o:Value
attribute [local irreducible] Fit pt own ro vw mpc lpt vels rels mow lrc dfr
attribute [local irreducible] lmp lme mit velg relg bnd owl
end Go.Art
namespace Go.Art
open Go Go.Proofs Go.RowKit
abbrev wts (L:List (List Int × Nat)):List (List Int):=L.map fun s=>Zs (dg s.2)
structure MsG where
 i:Nat
 o:Value
attribute [local irreducible] Fit pt own ro vw mpc lpt vels rels mow lrc dfr
attribute [local irreducible] lmp lme mit velg relg bnd owl natG
end Go.Art
namespace Go.Art
open Go Go.Proofs Go.RowKit
structure CoG where
 i:Nat
 ov:Value
 hs:List Value
 ls:List (List Int)
structure CiG where
 q:Nat
 hs:List Value
 ls:List (List Int)
structure CwG where
 i:Nat
 v:Value
attribute [local irreducible] Fit pt own ro vw mpc lpt vels rels mow lrc dfr
attribute [local irreducible] lmp lme mit velg relg bnd owl natG setP szL solE risR
end Go.Art
namespace Go.Art
open Go
structure RaI (t:List Int) (all:Int) (u:AlS) (dn:List Bool):Prop where
 ld:dn.length = t.length
 dr:∀ c:Nat,c < t.length→dn.getD c false = true→u.rest.getD c 0 < all
 B:∀ c:Nat,c < t.length→((c:Int) ∈ u.B ↔ dn.getD c false = false∧u.rest.getD c 0 < all)
 A:∀ c:Nat,c < t.length→((c:Int) ∈ u.A ↔ all < u.rest.getD c 0)
 sB:u.B.Pairwise (· ≤ ·)
 sA:u.A.Pairwise (· ≤ ·)
open Go Go.Proofs Go.RowKit
section
variable {P:Program} {E:Env P} {n:Sh} {X:Cx} {s:List K} {fr:Fr} {A A':List Ch} {ops:Array Oper} {rest:List Oper} {d:Nat} {ty t el:TypeId} {pos:String} {after:Array Edge} {v z:Value} {x y:Operand} {by_:Nat}
end
attribute [local irreducible] Fit pt own ro vw mpc lpt vels rels mow lrc dfr
attribute [local irreducible] lmp lme mit velg relg
structure RmG where
 u:AlS
 dn:List Bool
 i:Nat
end Go.Art
namespace Go.Art
open Go Go.Proofs Go.RowKit
structure RvG where
 i:Nat
 v1:Value
 v2:Value
 ss:List Value
 gs:List Value
attribute [local irreducible] Fit pt own ro vw mpc lpt vels rels mow lrc dfr
attribute [local irreducible] lmp lme mit velg relg bnd owl natG setP szL solE risR
end Go.Art
namespace Go.Art
open Go Go.Proofs Go.RowKit
attribute [local irreducible] Fit pt own ro vw mpc lpt vels rels mow lrc dfr
attribute [local irreducible] lmp lme mit velg relg bnd owl dfrl
end Go.Art
namespace Go.Art
open Go Go.Proofs Go.RowKit
attribute [local irreducible] Fit pt own ro vw mpc lpt vels rels mow lrc dfr
attribute [local irreducible] lmp lme mit velg relg
theorem SameRatioT_tr (t:Fr3) (n1 d1 n2 d2:Value):Tr Tryz.prog 22 [.agg #[.bool t.1,n1,d1],.agg #[.bool t.1,n2,d2]] [vw n1 (Us t.2.1),vw d1 (Us t.2.2),vw n2 (Us t.2.1),vw d2 (Us t.2.2)] []
  fun v D=>v = .bool true∧D = []:=(SameRatio_tr t t n1 d1 n2 d2).mono fun v D h=>by rw [decide_eq_true rfl] at h;exact h
end Go.Art
namespace Go.Art
open Go Go.Proofs Go.RowKit
attribute [local irreducible] Fit pt own ro vw mpc lpt vels rels mow lrc dfr
attribute [local irreducible] lmp lme mit velg relg bnd owl dfrl massW setsW massD
end Go.Art
namespace Go.Art
open Go Go.Proofs Go.RowKit
def setA (k a:Nat):List Int:=(belowI k).filter fun s=>Nat.beq (a / 2 ^ s.toNat % 2) 1
def chkP (k:Nat):Bool:=(List.range (k + 1)).all fun d=>(risR d 0 k).isPerm (((List.range (2 ^ k)).filter fun a=>Nat.beq (popK k a) d).map (setA k))
def chkO (k:Nat):Bool:=(List.range (k + 1)).all fun d=>(endsL d k []).all fun js=>(ordF 0 (upto k) js).isPerm (setA k (msk (ordF 0 (upto k) js))) && Nat.beq (popK k (msk (ordF 0 (upto k) js))) d
open Go Go.Proofs Go.RowKit
def smlT (m:Int) (tbl:List Int) (k:Nat):List Int:=(tbl.take k).map fun x=>pick x m
theorem smlT_zero (m:Int) (tbl:List Int):smlT m tbl 0 = []:=rfl
theorem smlT_succ {m:Int} {tbl:List Int} {i:Nat} (h:i < tbl.length):smlT m tbl (i + 1) = smlT m tbl i ++ [pick (tbl.getD i 0) m]:=by
 unfold smlT;rw [take_succ' h 0,List.map_append];rfl
theorem smlT_len (m:Int) (tbl:List Int) (k:Nat):(smlT m tbl k).length = min k tbl.length:=by unfold smlT;simp
theorem smlT_min (m:Int) (tbl:List Int) (k:Nat):smlT m tbl (min k tbl.length) = smlT m tbl k:=by
 unfold smlT
 congr 1
 rcases Nat.le_total k tbl.length with h | h
 ·rw [Nat.min_eq_left h]
 ·rw [Nat.min_eq_right h,List.take_length,List.take_of_length_le h]
theorem pickM_in {x m:Int} (h:1 ≤ m):0 ≤ pick x m∧pick x m < m:=by
 unfold pick
 rw [if_neg (by omega)]
 exact ⟨Int.emod_nonneg _ (by omega),Int.emod_lt_of_pos _ (by omega)⟩
attribute [local irreducible] Fit pt own ro vw mpc lpt vels rels mow lrc dfr
attribute [local irreducible] lmp lme mit velg relg bnd owl dfrl massW setsW massD smlT solE
end Go.Art
namespace Go.Art
open Go Go.Proofs Go.RowKit
structure MwG where
 i:Nat
attribute [local irreducible] Fit pt own ro vw mpc lpt vels rels mow lrc dfr
attribute [local irreducible] lmp lme mit velg relg bnd owl dfrl massW setsW massD smlT solE natG itemS oneS
end Go.Art
namespace Go.Art
open Go Go.Proofs Go.RowKit
theorem stL_one:stL [1,1] 2 2 = [mkRat ((5:Nat):Int) 8,mkRat ((1:Nat):Int) 8,mkRat ((1:Nat):Int) 4]:=by decide +kernel
theorem failV_one:failV [1,1] ((2:Nat):Int) ((2:Nat):Int) = (rqf (mkRat ((3:Nat):Int) 8),0):=by
 have h:failQ [1,1] 2 2 = mkRat ((3:Nat):Int) 8:=by decide +kernel
 unfold failV
 rw [if_pos (by decide),Int.toNat_natCast,h]
theorem solE_one:solE [1,1] ((2:Nat):Int) = 0:=by decide
attribute [local irreducible] Fit pt own ro vw mpc lpt vels rels mow lrc dfr
attribute [local irreducible] lmp lme mit velg relg bnd owl dfrl massW setsW massD smlT solE failV failQ stL
theorem is25_tr (t:Fr3) (e:Int) (n1 d1:Value) (x y:Nat) (hx:x < 9223372036854775808) (hy:y < 9223372036854775808) (hy0:y ≠ 0):Tr Tryz.prog 28 [.agg #[.bool t.1,n1,d1],I e,I x,I y] [vw n1 (Us t.2.1),vw d1 (Us t.2.2)] []
  fun v D=>v = .bool (decide (e = 0∧t = rqf (mkRat x y)))∧D = []:=by
 have hP:=FPair_tr x y hx hy hy0
 unfold FQ2 at hP
 have hl:0 < (dg (mkRat (x:Int) y).den).length:=by have:=dg_len_pos (mkRat (x:Int) y).den_nz;omega
 generalize mkRat (x:Int) y = q at *
 refine Tr.enter env _ Tryz.func28 (by kernel_rfl) rfl Tryz.ntmps28 rfl (by repeat (first | exact has00 | refine has01 ?_)) fun w0=>?_
 repeat' first|(refine gca ?_;first|(refine ca hP ?_;rintro _ _ ⟨vn,vd,rfl,hvn,hvd,rfl⟩)|(refine ca (SameRatio_tr t (rqf q) n1 d1 vn vd) ?_;rintro _ _ ⟨rfl,rfl⟩))|refine bx fun b1=>?_|refine al fun b2=>?_|refine lda ?_|refine srz ?_|(refine wo ?_;first|(refine ao ?_;first|refine oa ?_)|refine oa ?_|refine ld ?_|refine lnm ?_|refine gy ?_|refine gn ?_|(refine gsi (fun hB=>?_) (fun hB=>?_) <;> try (exfalso;omega)))|refine sq ?_|refine rg ?_|refine xc ?_|refine nl ?_|refine rt ?_
 ·refine r1 ⟨?_,rfl⟩
  congr 1;exact decide_eq_decide.2 ⟨fun h=>⟨by assumption,h⟩,fun h=>h.2⟩
 ·refine r1 ⟨?_,rfl⟩
  rw [decide_eq_false fun h=>absurd h.1 (by assumption)]
theorem fails25_tr (tv:Value) (htv:tv.oneCell' = true) (t:List Int) (k n:Int) (x y:Nat) (hx:x < 9223372036854775808) (hy:y < 9223372036854775808) (hy0:y ≠ 0) (hl:t.length ≤ 12) (hk:k ≤ 40∨1024 < k) (hn:n ≤ 12∨4096 < n) (h:failV t k n = (rqf (mkRat x y),0)) :
  Tr Tryz.prog 29 [tv,I k,I n,I x,I y] [vw tv (Is t)] [] fun v D=>v = .bool true∧D = []:=by
 have hF:=Fail_tr tv htv t k n hk hl hn
 rw [h] at hF
 have hI:=fun a b=>is25_tr (rqf (mkRat x y)) 0 a b x y hx hy hy0
 simp only [and_self,decide_true] at hI
 unfold FW at hF
 dsimp only at hF
 generalize mkRat (x:Int) y = q at *
 refine Tr.enter env _ Tryz.func29 (by kernel_rfl) rfl Tryz.ntmps29 rfl (by repeat (first | exact has00 | refine has01 ?_)) fun w0=>?_
 repeat' first|(refine gca ?_;first|(refine ca hF ?_;rintro _ _ ⟨vn,vd,rfl,hvn,hvd,rfl⟩)|(refine ca (hI vn vd) ?_;rintro _ _ ⟨rfl,rfl⟩))|refine al fun c=>?_|refine srz ?_|refine lda ?_|(refine wo ?_;first|refine oa ?_)|refine sq ?_|refine rg ?_|refine xc ?_|refine nl ?_|refine rt ?_
 exact r1 ⟨rfl,rfl⟩
theorem len3 {l:List HV} (h:l.length = 3):∃ a b c,l = [a,b,c]:=by
 match l,h with
 | [a,b,c],_=>exact ⟨a,b,c,rfl⟩
theorem awake25_tr:Tr Tryz.prog 16 [] [] [] fun v D=>v = .bool true∧D = []:=by
 have hS:=fun s hs=>Stuck_tr s hs [1,1] 2 2 solE_one (by decide) (by decide) (by decide)
 rw [stL_one] at hS
 have hF:=fun s hs=>fails25_tr s hs [1,1] 2 2 3 8 (by decide) (by decide) (by decide) (by decide) (by decide) (by decide) failV_one
 have hI0:=fun a b=>is25_tr (rqf (mkRat ((5:Nat):Int) 8)) 0 a b 5 8 (by decide) (by decide) (by decide)
 have hI1:=fun a b=>is25_tr (rqf (mkRat ((1:Nat):Int) 8)) 0 a b 1 8 (by decide) (by decide) (by decide)
 have hI2:=fun a b=>is25_tr (rqf (mkRat ((1:Nat):Int) 4)) 0 a b 1 4 (by decide) (by decide) (by decide)
 simp only [and_self,decide_true] at hI0 hI1 hI2
 generalize mkRat ((5:Nat):Int) 8 = q0 at *
 generalize mkRat ((1:Nat):Int) 8 = q1 at *
 generalize mkRat ((1:Nat):Int) 4 = q2 at *
 refine Tr.enter env _ Tryz.func16 (by kernel_rfl) rfl Tryz.ntmps16 rfl (by repeat (first | exact has00 | refine has01 ?_)) fun w0=>?_
 repeat' first|(refine gca ?_;first|(refine ca (hS v hv) ?_;rintro _ _ ⟨sv,hs,rfl,hsv,hhs,rfl⟩))|refine slz fun v hv=>?_|(refine wo ?_;first|refine oa ?_)|refine sq ?_|refine rg ?_|refine xc ?_|refine nl ?_
 obtain ⟨a0,a1,a2,rfl⟩:=len3 hhs
 have hh:=fun (F:List Ch) (h:ofr [a0,a1,a2] [q0,q1,q2] ∈ F) (i:Nat) (hi:i < 3)=>has_fr (has_ofr (hs:=[a0,a1,a2]) (qs:=[q0,q1,q2]) rfl h) rfl (i:=i) hi
 repeat' first|(refine gca ?_;first|(refine ca (hI0 a0.1 a0.2) ?_ (hp:=has1 (hh _ memA 0 (by decide)).1 (has1 (hh _ memA 0 (by decide)).2 has0));rintro _ _ ⟨rfl,rfl⟩)|(refine ca (hI1 a1.1 a1.2) ?_ (hp:=has1 (hh _ memA 1 (by decide)).1 (has1 (hh _ memA 1 (by decide)).2 has0));rintro _ _ ⟨rfl,rfl⟩)|(refine ca (hI2 a2.1 a2.2) ?_ (hp:=has1 (hh _ memA 2 (by decide)).1 (has1 (hh _ memA 2 (by decide)).2 has0));rintro _ _ ⟨rfl,rfl⟩)|(refine ca (hF v2 hv2) ?_;rintro _ _ ⟨rfl,rfl⟩))|refine lnw ?_ (hm:=has_oww memA)|refine ixws ?_ (hm:=has_oww memA)|refine ldaw (m:=0) (sz:=3) (vs:=rrow q0 a0) rfl ?_ (hm:=has_oww memA)|refine ldaw (m:=3) (sz:=3) (vs:=rrow q1 a1) rfl ?_ (hm:=has_oww memA)|refine ldaw (m:=6) (sz:=3) (vs:=rrow q2 a2) rfl ?_ (hm:=has_oww memA)|refine slz fun v2 hv2=>?_|(refine wo ?_;first|(refine ao ?_;first|refine oa ?_)|refine oa ?_|refine gy ?_)|refine xc ?_|refine nl ?_|refine rt ?_
 exact r1 ⟨rfl,rfl⟩
theorem small25_tr (tv:Value) (tbl:List Int) (k:Nat) (hk:k ≤ 100):Tr Tryz.prog 31 [tv,I k] [vw tv (Is tbl)] [] fun u D=>∃ o,u = tup2 o (.bool (decide (solE (smlT 4 tbl k) k = 0)))∧o.oneCell' = true∧D = [own TLI o (Is (smlT 4 tbl k))]:=by
 have hC:=fun s=>SoCheck_tr s (smlT 4 tbl k) k
 refine Tr.enter env _ Tryz.func31 (by kernel_rfl) rfl Tryz.ntmps31 rfl (by repeat (first | exact has00 | refine has01 ?_)) fun w0=>?_
 refine TC.leni (v:=tv) (l:=tbl) fun htl=>?_
 refine TC.im (own_nil TLI _) ?_
 repeat' first|(refine wo ?_;first|refine oa ?_)|refine sq ?_|refine rg ?_|refine xc ?_|refine nl ?_|refine bk ?_
 refine TC.loop (ι:=Nat × Value) (fun g=>[(7,I g.1),(6,g.2)]) (fun g=>[own TLI g.2 (Is (smlT 4 tbl g.1))]) (fun g=>g.1 ≤ k∧g.1 ≤ tbl.length∧g.2.oneCell' = true) (fun g=>k - g.1) (0,nS) [0,1] ⟨Nat.zero_le _,Nat.zero_le _,rfl⟩ ?_ (hf:=by dsimp only;rw [smlT_zero 4 tbl];exact fitA)
 rintro ⟨i,o⟩ ⟨h1,h2,ho⟩
 dsimp only at h1 h2 ho ⊢
 by_cases hlt:i < k∧i < tbl.length
 ·have hms:=smlT_succ (m:=4) hlt.2
  have hml:=smlT_len 4 tbl i
  clear hC
  generalize hy:tbl.getD i 0 = y at *
  repeat' first|(refine gca ?_;first|(refine ca (Pick_tr y 4 (by decide)) ?_;rintro _ _ ⟨rfl,rfl⟩))|refine lie hy ?_|refine slii [pick y 4] fun v1=>?_|(refine api (l:=smlT 4 tbl i) (news:=[pick y 4]) (fun o2=>?_) (hl:=by simp only [List.length_cons,List.length_nil];omega);refine TO.one (v:=o2) (xs:=Is (smlT 4 tbl i ++ [pick y 4])) fun ho2=>?_)|(refine wo ?_;first|(refine ao ?_;first|refine aw ?_|refine oa ?_)|refine oa ?_|refine lnm ?_|refine ixmn ?_|refine gy ?_|(refine gsi (fun hB=>?_) (fun hB=>?_) <;> try (exfalso;omega)))|(refine gc ?_;first|(refine ci (fun hB=>?_) (fun hB=>?_) <;> try (exfalso;omega)))|refine sq ?_|refine rg ?_|refine xc ?_|refine nl ?_|refine sk ?_|refine bk ?_|refine xb ?_
  exact lp (i + 1,o2) ⟨hlt.1,hlt.2,ho2⟩ (hf:=by dsimp only;rw [hms];exact fitA)
 ·have hmi:smlT 4 tbl i = smlT 4 tbl k:=by rw [← smlT_min 4 tbl k];congr 1;omega
  rw [hmi]
  have hC1:=hC o
  generalize solE (smlT 4 tbl k) k = e at *
  repeat' first|(refine gca ?_;first|(refine ca hC1 ?_;rintro _ _ ⟨rfl,rfl⟩))|(refine wo ?_;first|(refine ao ?_;first|refine oa ?_)|refine oa ?_|refine lnm ?_|refine gy ?_|refine gn ?_|(refine gsi (fun hB=>?_) (fun hB=>?_) <;> try (exfalso;omega)))|(refine gc ?_;first|refine cf ?_|(refine ci (fun hB=>?_) (fun hB=>?_) <;> try (exfalso;omega)))|refine sq ?_|refine rg ?_|refine xc ?_|refine nl ?_|refine xe ?_|refine rt ?_
  all_goals exact r2 ⟨o,rfl,ho,rfl⟩
end Go.Art
namespace Go.Art
open Go Go.Proofs Go.RowKit
def sIx (x:List Rat) (m:Nat):List Nat:=(List.range m).filter fun i=>decide (x.getD i 0 ≠ 0)
theorem sIx_in {x:List Rat} {m:Nat} (h:x.getD m 0 ≠ 0):sIx x (m + 1) = sIx x m ++ [m]:=by
 unfold sIx;rw [List.range_succ,List.filter_append,List.filter_cons,if_pos (decide_eq_true h)];rfl
theorem sIx_out {x:List Rat} {m:Nat} (h:x.getD m 0 = 0):sIx x (m + 1) = sIx x m:=by
 unfold sIx;rw [List.range_succ,List.filter_append,List.filter_cons,if_neg (by rw [decide_eq_true_eq];exact fun k=>k h)];simp
theorem sIx_len (x:List Rat) (m:Nat):(sIx x m).length ≤ m:=by
 have:=List.length_filter_le (fun i=>decide (x.getD i 0 ≠ 0)) (List.range m)
 rwa [List.length_range] at this
abbrev srow (c r:Nat) (q:Rat) (h:HV):List Value:=[I (c:Int),I (r:Int),.bool (decide (q.num < 0)),h.1,h.2]
def scs (n:Nat) (x:List Rat) (is:List Nat) (hs:List HV):List Value:=(List.zipWith (fun i h=>srow (i / (n + 1)) (i % (n + 1)) (x.getD i 0) h) is hs).flatten
theorem scs_app {n:Nat} {x:List Rat} {is:List Nat} {hs:List HV} (hl:hs.length = is.length) (i:Nat) (h:HV):scs n x (is ++ [i]) (hs ++ [h]) = scs n x is hs ++ srow (i / (n + 1)) (i % (n + 1)) (x.getD i 0) h:=by
 unfold scs
 rw [List.zipWith_append (by omega),List.flatten_append]
 simp
structure SsG where
 es:List (Option HV)
 v:Value
 is:List Nat
 hs:List HV
structure SsI (x:List Rat) (ez:List (Option HV)) (N i:Nat) (g:SsG):Prop where
 ii:g.is = sIx x i
 ov:g.v.oneCell' = true
 hl:g.hs.length = g.is.length
 el:g.es.length = N
 es:∀ j,i ≤ j→j < N→g.es.getD j none = ez.getD j none
theorem grB_out {A F:List Ch} {n:Nat} {v:Value} {qs:List Rat} {es:List (Option HV)} {z:HV} (hf:Fit A [grB n v qs es z] F):Im A (gP n v qs es z ++ F):=Im.trans hf (un_bnd (gP n v qs es z) F)
theorem gow_pop {A F:List Ch} {es:List (Option HV)} {qs:List Rat} {v1 v2:Value} (hf:Fit A [gow es qs] F) (hl:es.length = qs.length) {i:Nat} (hi:i < qs.length) (he:es.getD i none = some (v1,v2)):Im A (own T64 v1 (Us (dg (qs.getD i 0).num.natAbs)) :: own T64 v2 (Us (dg (qs.getD i 0).den)) :: gow (es.set i none) qs :: F):=Im.trans hf (gow_out hl hi he F)
structure SdG where
 d:Bool
 v:Value
 is:List Nat
 hs:List HV
attribute [local irreducible] Fit pt own ro vw mpc lpt vels rels mow lrc dfr
attribute [local irreducible] lmp lme mit velg relg bnd owl dfrl gow shB grB
abbrev TSt:TypeId:=45
abbrev TSs:TypeId:=41
abbrev ssD (n:Nat) (x:List Rat) (v:Value) (is:List Nat) (hs:List HV):List Ch:=[oww TSt 5 v is.length (scs n x is hs),ofr hs (is.map fun i=>x.getD i 0)]
set_option maxHeartbeats 1000000 in
theorem States_ok (tv:Value) (htv:tv.oneCell' = true) (t:List Int) (k n u:Nat) (hz:solE t k = 0) (hk:k ≤ 40) (hl:t.length ≤ 12) (hn:n ≤ 12) (hu:u ≤ k):Tr Tryz.prog 25 [tv,I k,I n,I u] [vw tv (Is t)] []
  fun w D=>∃ v hs,w = tup2 v (I 0)∧v.oneCell' = true∧hs.length = (sIx (lvT t k n (k - u)) ((n + 1) * (n + 1))).length∧D = ssD n (lvT t k n (k - u)) v (sIx (lvT t k n (k - u)) ((n + 1) * (n + 1))) hs:=by
 have hk1:=(solE_zero hz).1
 have hR:=riprefuses_tr tv t k n
 rw [show ripE t k n = 0 by unfold ripE;rw [if_neg (by omega)];exact hz] at hR
 have hLv:=levels_tr tv htv (k:Int) (n:Int)
 have hrunL:=fun p1 p2 p3=>@SeqW.run _ _ _ _ _ _ _ (levels1_seq p1 p2 p3 tv htv t k n hz hk hl hn)
 have hfb:∀ i,i < (n + 1) * (n + 1)→(dg ((lvT t k n (k - u)).getD i 0).num.natAbs).length ≤ 1099511627776:=fun i hi=>by
  obtain ⟨B,hB⟩ : ∃ B,B = 20000:=⟨_,rfl⟩
  have hB9:B ≤ 8589934592:=by omega
  obtain ⟨b1,b2,b3,b4⟩:=lvT_facts hz hk hl hn hB (j:=k - u) (by omega)
  exact Nat.le_trans ((y_FB b1 b2 b3 b4 hi).le hB9).1 (by decide)
 have hPl:=fun v hv=>places_tr n v hv
 have hNN:(n + 1) * (n + 1) ≤ 169:=Nat.mul_le_mul (show n + 1 ≤ 13 by omega) (show n + 1 ≤ 13 by omega)
 have hql:(lvT t k n (k - u)).length = (n + 1) * (n + 1):=(supp_lv _ _ _ _ _).len
 clear hz
 generalize lvT t k n = L at *
 generalize hx:L (k - u) = x at *
 refine Tr.enterM env _ Tryz.func25 (by kernel_rfl) rfl Tryz.ntmps25 rfl (by repeat (first | exact has00 | refine has01 ?_)) fun w0=>?_
 repeat' first|(refine gca ?_;first|(refine ca hR ?_;rintro _ _ ⟨rfl,rfl⟩)|(refine ca hLv ?_;rintro _ _ ⟨p1,p2,p3,rfl,rfl⟩))|refine bx1 fun c7=>?_|refine al fun c11=>?_|(refine wo ?_;first|(refine ao ?_;first|refine oa ?_)|refine oa ?_|refine ld ?_|refine gy ?_)|(refine gc ?_;first|refine cf ?_|(refine ci (fun hB=>?_) (fun hB=>?_) <;> try (exfalso;omega)))|refine sq ?_|refine rg ?_|refine xc ?_|refine nl ?_|refine sk ?_|refine bk ?_
 refine TC.im (oww_nil TSt 5 _) ?_
 refine TC.im (owl_nil (e:=T64) (g:=wU) _) ?_
 have hrun:=@hrunL p1 p2 p3
 clear hrunL hLv hR
 refine TC.range [lbd [lpt c7 [I u] TLI],lbd [lpt p1 [tv] TLs,lpt p2 [I k] TLI,lpt p3 [I n] TLI,vw tv (Is t)]] [pt c11 [nS] TSs,oww TSt 5 nS 0 [],ofr [] []] (fun l2 rec Dm pend B'=>∃ v hs,B' = dfr Dm :: pt c11 [v] TSs :: ssD n x v (sIx x ((n + 1) * (n + 1))) hs∧pend = some (.exit 0)∧v.oneCell' = true∧hs.length = (sIx x ((n + 1) * (n + 1))).length) ?_ ?_ (hp:=has1 (lbd_of (has1 hasA has0)) (has1 (lbd_of (has1 hasA (has1 hasA (has1 hasA (has1 hasA has0))))) has0))
 rotate_left
 ·rintro l2 rec Dm pend B' ⟨v,hs,rfl,rfl,hv,hhs⟩
  generalize sIx x ((n + 1) * (n + 1)) = is at *
  show TC env _ _ _ _ _ _
  refine TC.im (dfrl_nil _) ?_
  refine TC.im (dfrl_push (D:=Dm) (Ds:=[]) fitA) ?_
  repeat' first|(refine wo ?_;first|refine oa ?_|refine ld ?_)|refine sq ?_|refine rg ?_|refine xc ?_|refine nl ?_|refine xe ?_|refine rt ?_
  exact m2t (Ds:=[Dm]) ⟨v,hs,rfl,hv,hhs,rfl⟩
 intro rec l2 Dm hr
 refine Tr.unb (hrun (α:=SdG) (lbd [lpt c7 [I u] TLI]) l2 (fun g=>bnd (lrc l2 rec (if g.d then .done else .ready) (if g.d then some (.exit 0) else none) :: dfr Dm :: pt c11 [g.v] TSs :: ssD n x g.v g.is g.hs)) (fun g j=>g = ⟨false,nS,[],[]⟩∧j ≤ k - u) (fun g=>g.d = true∧g.v.oneCell' = true∧g.is = sIx x ((n + 1) * (n + 1))∧g.hs.length = g.is.length) ⟨false,nS,[],[]⟩ ⟨rfl,Nat.zero_le _⟩ (fun p=>bnd_nob (by repeat (first | exact nb0 | refine nb1 ?_))) ?_) ?_
 rotate_left
 ·rintro _ _ ⟨⟨d,v,is,hs⟩,rfl,h | h⟩
  ·exact absurd h.2 (by omega)
  ·obtain ⟨h1,h2,h3,h4⟩:=h
   dsimp only at h1 h2 h3 h4
   subst h1 h3
   exact ⟨_,rfl,.done,some (.exit 0),_,rfl,by decide,v,hs,rfl,rfl,h2,h4⟩
 clear hrun
 rintro g j v ez z hv hz hgr ⟨rfl,hju⟩ hj
 show Ty _ _ _ _ [grB n v (L j) ez z,bnd [lrc l2 rec .ready none,dfr Dm,pt c11 [nS] TSs,oww TSt 5 nS 0 [],ofr [] []]] _
 refine Ty.bndK (K:=[grB n v (L j) ez z]) ?_
 refine Ty.pre (pre:=[lpt c7 [I u] TLI]) ?_ (has_lbds (C:=[lpt c7 [I u] TLI]) (List.Mem.head _) _ (by repeat (first | exact has00 | refine has01 ?_)) fun c hc=>hc) (by repeat (first | exact has00 | refine has01 ?_))
 refine Ty.intro env hr (by repeat (first | exact has00 | refine has01 ?_)) fun w1=>?_
 by_cases hjk:j = k - u
 rotate_left
 ·repeat' first|refine al fun c13=>?_|refine srz ?_ (hj:=Nat.le_of_ble_eq_true rfl)|refine xbeg ?_|(refine wo ?_;first|(refine ao ?_;first|refine oa ?_)|refine oa ?_|refine ldl ?_)|(refine gc ?_;first|(refine cn (fun hB=>?_) (fun hB=>?_) <;> try (exfalso;omega)))|refine sq ?_|refine rg ?_|refine xc ?_|refine nl ?_|refine bk ?_|refine xe ?_
  exact yn ⟨[lrc l2 rec .ready none,dfr Dm,pt c11 [nS] TSs,oww TSt 5 nS 0 [],ofr [] []],[grB n v (L j) ez z],rfl,.inl ⟨rfl,⟨false,nS,[],[]⟩,rfl,rfl,by omega⟩⟩
 subst hjk
 rw [hx] at hgr ⊢
 clear hx hju hj
 have hhl:(hsE z ez).length = x.length:=by rw [hsE_len,hgr.el,hgr.ql]
 have hPl:=hPl v hv
 repeat' first|(refine gca ?_;first|(refine ca hPl ?_;rintro _ _ ⟨bp,rfl,rfl⟩))|refine al fun c13=>?_|refine srz ?_ (hj:=Nat.le_of_ble_eq_true rfl)|refine xbeg ?_|refine lda (cs:=[I n,v]) ?_|(refine wo ?_;first|(refine ao ?_;first|refine oa ?_)|refine oa ?_|refine ldl ?_)|(refine gc ?_;first|(refine cn (fun hB=>?_) (fun hB=>?_) <;> try (exfalso;omega)))|refine sq ?_|refine rg ?_|refine xc ?_|refine nl ?_|refine sk ?_|refine bk ?_
 refine TC.fact (fun w hw i hi=>fr_one (hs:=hsE z ez) (qs:=x) (has_grB hgr memA).2 hhl (i:=i) hi w hw) fun hone=>?_
 refine TC.im (grB_out (n:=n) (v:=v) (qs:=x) (es:=ez) (z:=z) fitA) ?_
 have hrun2:=@SeqP.run _ _ _ _ _ _ _ (places1_seq bp n v x (hsE z ez) hhl hql hn hone)
 refine TC.rangeI (l0:=l2) (rec0:=rec) memA [lbd [vw z.1 (Us (dg (0:Rat).num.natAbs))],lbd [lpt bp [I n,v] TGr,vwf v ((n + 1) * (n + 1)) (rcs x (hsE z ez))]] [pt c11 [nS] TSs,oww TSt 5 nS 0 [],ofr [] [],gow ez x] (fun l3 rec3 pend B'=>∃ g:SsG,B' = [pt c11 [g.v] TSs,oww TSt 5 g.v g.is.length (scs n x g.is g.hs),ofr g.hs (g.is.map fun i=>x.getD i 0),gow g.es x]∧pend = none∧SsI x ez ((n + 1) * (n + 1)) ((n + 1) * (n + 1)) g) ?_ ?_ (hp:=has1 (lbd_of (has1 hasA has0)) (has1 (lbd_of (has1 hasA (has1 hasA has0))) has0))
 rotate_left
 ·rintro l3 rec3 pend B' ⟨⟨es,ov,is,hs⟩,rfl,rfl,h1,h2,h3,h4,_⟩
  dsimp only at h1 h2 h3 h4 ⊢
  show TX env _ _ _ _ _ _
  repeat' first|refine xc ?_|refine xb ?_
  refine xo ?_
  exact ye ⟨[lrc l2 rec .done (some (.exit 0)),dfr Dm,pt c11 [ov] TSs,oww TSt 5 ov is.length (scs n x is hs),ofr hs (is.map fun i=>x.getD i 0)],[],rfl,.inr ⟨rfl,⟨true,ov,is,hs⟩,rfl,rfl,h2,h1,h3⟩⟩
 intro rec3 l3 hr3
 refine Tr.unb (hrun2 (α:=SsG) (lbd [vw z.1 (Us (dg (0:Rat).num.natAbs))]) l3 (fun g=>bnd [lrc l3 rec3 .ready none,pt c11 [g.v] TSs,oww TSt 5 g.v g.is.length (scs n x g.is g.hs),ofr g.hs (g.is.map fun i=>x.getD i 0),gow g.es x]) (fun g i=>SsI x ez ((n + 1) * (n + 1)) i g) (fun _=>False) ⟨ez,nS,[],[]⟩ ⟨rfl,rfl,rfl,hgr.el,fun _ _ _=>rfl⟩ (fun p=>bnd_nob (by repeat (first | exact nb0 | refine nb1 ?_))) ?_) ?_
 rotate_left
 ·rintro _ _ ⟨g,rfl,h | h⟩
  ·exact ⟨_,rfl,.ready,none,_,rfl,by decide,g,rfl,rfl,h⟩
  ·exact h.elim
 clear hrun2 hPl
 rintro ⟨es,ov,is,hs⟩ i ⟨h1,hov,hhs,hes,hE⟩ hi
 dsimp only at h1 hov hhs hes hE ⊢
 refine Ty.bnd ?_
 refine Ty.pre (pre:=[vw z.1 (Us (dg (0:Rat).num.natAbs))]) ?_ (has_lbds (C:=[vw z.1 (Us (dg (0:Rat).num.natAbs))]) (List.Mem.head _) _ (by repeat (first | exact has00 | refine has01 ?_)) fun c hc=>hc) (by repeat (first | exact has00 | refine has01 ?_))
 refine Ty.intro env hr3 (by repeat (first | exact has00 | refine has01 ?_)) fun w2=>?_
 have hfi:=hfb i hi
 obtain ⟨hx1,hx2⟩:=hone i (by rw [hql];exact hi)
 have hil:is.length ≤ 169:=by rw [h1];have:=sIx_len x i;omega
 have hEi:=hE i (Nat.le_refl i) hi
 have hxe:(hsE z ez).getD i nS2 = (ez.getD i none).getD z:=hsE_get (by rw [hgr.el];exact hi)
 have hel:es.length = x.length:=by rw [hes,hql]
 have hix:i < x.length:=by rw [hql];exact hi
 have hz0:=hgr.z i hi
 have hps:∀ F:List Ch,gow es x ∈ F→vw z.1 (Us (dg (0:Rat).num.natAbs)) ∈ F→Has F (vw ((hsE z ez).getD i nS2).1 (Us (dg (x.getD i 0).num.natAbs))):=fun F f1 f2=>by
  rw [hxe]
  cases he:ez.getD i none with
  | none=>rw [hz0 he];exact has_mem f2
  | some p=>rw [he] at hEi;exact (has_gowS hel f1 hix hEi).1
 clear hfb hone hgr
 by_cases hy0:x.getD i 0 = 0
 ·have h1':is = sIx x (i + 1):=by rw [sIx_out hy0];exact h1
  clear hxe hEi
  generalize (hsE z ez).getD i nS2 = hh at *
  obtain ⟨x1,x2⟩:=hh
  dsimp only at hx1 hx2 hps
  have hS:=some_tr (x.getD i 0) x1 x2 hx1 hfi
  rw [decide_eq_false (fun h=>h hy0)] at hS
  generalize x.getD i 0 = y at *
  generalize i / (n + 1) = c at *
  generalize i % (n + 1) = r at *
  repeat' first|(refine gca ?_;first|(refine ca hS ?_ (hp:=has1 (hps _ memA memA) has0);rintro _ _ ⟨rfl,rfl⟩))|refine al fun c14=>?_|refine srz ?_ (hj:=Nat.le_of_ble_eq_true rfl)|refine xbeg ?_|refine lda ?_|(refine gc ?_;first|refine cf ?_)|refine sq ?_|refine rg ?_|refine xc ?_|refine nl ?_|refine sk ?_|refine bk ?_|refine xb ?_
  exact yn ⟨⟨es,ov,is,hs⟩,rfl,.inl ⟨rfl,h1',hov,hhs,hes,fun j g1 g2=>hE j (by omega) g2⟩⟩
 have h1':is ++ [i] = sIx x (i + 1):=by rw [sIx_in hy0,h1]
 obtain ⟨⟨x1,x2⟩,hp⟩ : ∃ p,ez.getD i none = some p:=by
  cases he:ez.getD i none with
  | none=>exact absurd (hz0 he) hy0
  | some p=>exact ⟨p,rfl⟩
 rw [hp] at hxe hEi
 have hxe':(hsE z ez).getD i nS2 = (x1,x2):=hxe
 rw [hxe'] at hx1 hx2 hps ⊢
 dsimp only at hx1 hx2 hps
 have hS:=some_tr (x.getD i 0) x1 x2 hx1 hfi
 rw [decide_eq_true hy0] at hS
 have hsc:=scs_app (n:=n) (x:=x) hhs i (x1,x2)
 have hmp:(is ++ [i]).map (fun i=>x.getD i 0) = is.map (fun i=>x.getD i 0) ++ [x.getD i 0]:=by simp
 have hll:(is ++ [i]).length = is.length + 1:=by simp
 have hgo:=fun (A F:List Ch) (hf:Fit A [gow es x] F)=>gow_pop hf hel hix hEi
 have hor:=fun (A F:List Ch) (hf:Fit A _ F)=>ofr_snoc (hs:=hs) (qs:=is.map fun i=>x.getD i 0) (by rw [List.length_map];exact hhs) (x.getD i 0) x1 x2 hf
 have hsn:∀ j,i + 1 ≤ j→j < (n + 1) * (n + 1)→(es.set i none).getD j none = ez.getD j none:=fun j g1 g2=>by
  rw [getD_setO _ _ _ _ (by omega),if_neg (by omega)];exact hE j (by omega) g2
 have hsl:(es.set i none).length = (n + 1) * (n + 1):=by rw [List.length_set];exact hes
 clear hxe hxe' hEi hE hz0 hp hy0 h1
 rw [← hmp] at hor
 generalize x.getD i 0 = y at *
 generalize i / (n + 1) = c at *
 generalize i % (n + 1) = r at *
 repeat' first|(refine gca ?_;first|(refine ca hS ?_ (hp:=has1 (hps _ memA memA) has0);rintro _ _ ⟨rfl,rfl⟩))|refine al fun c14=>?_|refine srz ?_ (hj:=Nat.le_of_ble_eq_true rfl)|refine xbeg ?_|refine lda ?_|(refine wo ?_;first|refine ld ?_)|(refine gc ?_;first|refine ct ?_)|refine sq ?_|refine rg ?_|refine xc ?_|refine nl ?_|refine bk ?_
 repeat' first|refine lda (vs:=rrow y (x1,x2)) ?_|refine ixa (m:=2) (i:=0) ?_|refine ixa (m:=2) (i:=1) ?_|refine bdm ?_|refine slws (sz:=5) (xs:=srow c r y (x1,x2)) fun g2=>?_|refine apw (e:=TSt) (sz:=5) (N:=is.length) (M:=1) (xs:=scs n x is hs) (ys:=srow c r y (x1,x2)) (by decide) rfl (one_cons rfl (one_cons rfl (one_cons rfl (one_cons hx1 (one_cons hx2 one_nil))))) fun v' hv'=>?_|refine srz ?_ (hj:=Nat.le_of_ble_eq_true rfl)|(refine wo ?_;first|refine ld ?_|refine sr ?_)|refine nl ?_|refine xb ?_
 refine TX.im (hgo _ _ fitA) ?_
 refine TX.im (hor _ _ fitA) ?_
 rw [← hsc,← hll]
 exact yn ⟨⟨es.set i none,v',is ++ [i],hs ++ [(x1,x2)]⟩,rfl,.inl ⟨rfl,h1',hv',by rw [List.length_append,List.length_append,hhs];rfl,hsl,hsn⟩⟩
end Go.Art
namespace Go.Art
open Go Go.Proofs Go.RowKit
theorem ssx_a:sIx (lvT [1,1] 2 2 (2 - 2)) ((2 + 1) * (2 + 1)) = [2,4,6]:=by decide +kernel
theorem ssx_b:sIx (lvT [1,1] 2 2 (2 - 1)) ((2 + 1) * (2 + 1)) = [0,1]:=by decide +kernel
theorem ssq_a:(lvT [1,1] 2 2 (2 - 2)).getD 2 0 = mkRat ((1:Nat):Int) 4∧(lvT [1,1] 2 2 (2 - 2)).getD 4 0 = mkRat ((1:Nat):Int) 2∧(lvT [1,1] 2 2 (2 - 2)).getD 6 0 = mkRat ((1:Nat):Int) 4:=by decide +kernel
theorem ssq_b:(lvT [1,1] 2 2 (2 - 1)).getD 0 0 = mkRat ((1:Nat):Int) 8∧(lvT [1,1] 2 2 (2 - 1)).getD 1 0 = mkRat ((5:Nat):Int) 8:=by decide +kernel
theorem stL_two:stL [1] 2 2 = [mkRat ((1:Nat):Int) 2,mkRat ((1:Nat):Int) 2,mkRat ((0:Nat):Int) 1]:=by decide +kernel
theorem failV_of {t:List Int} {k n x y:Nat} (h1:ripE t k n = 0) (h2:failQ t k n = mkRat (x:Int) y):failV t k n = (rqf (mkRat (x:Int) y),0):=by
 unfold failV
 rw [if_pos h1,Int.toNat_natCast,Int.toNat_natCast,h2]
theorem failV_two:failV [1] ((2:Nat):Int) ((2:Nat):Int) = (rqf (mkRat ((1:Nat):Int) 2),0):=failV_of (by decide) (by decide +kernel)
theorem failV_three:failV [1] ((1:Nat):Int) ((0:Nat):Int) = (rqf (mkRat ((1:Nat):Int) 1),0):=failV_of (by decide) (by decide +kernel)
theorem failV_four:failV [1] 1025 1 = (rqn,3):=by
 unfold failV
 rw [if_neg (by decide)]
 rfl
theorem failV_five:failV [1,1] 1 1 = (rqn,13):=by
 unfold failV
 rw [if_neg (by decide),show ripE [1,1] 1 1 = 13 by decide]
theorem solE_two:solE [1] ((2:Nat):Int) = 0:=by decide
theorem len2 {l:List HV} (h:l.length = 2):∃ a b,l = [a,b]:=by
 match l,h with
 | [a,b],_=>exact ⟨a,b,rfl⟩
attribute [local irreducible] Fit pt own ro vw mpc lpt vels rels mow lrc dfr
attribute [local irreducible] lmp lme mit velg relg bnd owl dfrl massW setsW massD smlT solE failV failQ stL
theorem state25_tr (c r x y:Nat) (n1 d1:Value) (hx:x < 9223372036854775808) (hy:y < 9223372036854775808) (hy0:y ≠ 0):Tr Tryz.prog 27 [.agg (srow c r (mkRat x y) (n1,d1)).toArray,I c,I r,I x,I y] [vw n1 (Us (dg (mkRat (x:Int) y).num.natAbs)),vw d1 (Us (dg (mkRat (x:Int) y).den))] []
  fun v D=>v = .bool true∧D = []:=by
 have hI:=is25_tr (rqf (mkRat (x:Int) y)) 0 n1 d1 x y hx hy hy0
 simp only [and_self,decide_true] at hI
 generalize mkRat (x:Int) y = q at *
 refine Tr.enter env _ Tryz.func27 (by kernel_rfl) rfl Tryz.ntmps27 rfl (by repeat (first | exact has00 | refine has01 ?_)) fun w0=>?_
 repeat' first|(refine gca ?_;first|(refine ca hI ?_;rintro _ _ ⟨rfl,rfl⟩))|refine bx fun b1=>?_|refine lda (vs:=[.bool (decide (q.num < 0)),n1,d1]) ?_|(refine wo ?_;first|(refine ao ?_;first|refine oa ?_)|refine oa ?_|refine ld ?_|refine gy ?_|(refine gsi (fun hB=>?_) (fun hB=>?_) <;> try (exfalso;omega)))|refine sq ?_|refine rg ?_|refine xc ?_|refine nl ?_|refine rt ?_
 exact r1 ⟨rfl,rfl⟩
theorem ss_a (v:Value) (h0 h1 h2:HV):ssD 2 (lvT [1,1] 2 2 (2 - 2)) v (sIx (lvT [1,1] 2 2 (2 - 2)) ((2 + 1) * (2 + 1))) [h0,h1,h2] = [oww TSt 5 v 3 (srow 0 2 (mkRat ((1:Nat):Int) 4) h0 ++ (srow 1 1 (mkRat ((1:Nat):Int) 2) h1 ++ (srow 2 0 (mkRat ((1:Nat):Int) 4) h2 ++ []))),ofr [h0,h1,h2] [mkRat ((1:Nat):Int) 4,mkRat ((1:Nat):Int) 2,mkRat ((1:Nat):Int) 4]]:=by
 have h:=ssq_a
 rw [ssx_a]
 generalize lvT [1,1] 2 2 (2 - 2) = x at *
 obtain ⟨e1,e2,e3⟩:=h
 rw [← e1,← e2]
 exact congrArg (fun q=>[oww TSt 5 v 3 (srow 0 2 (x.getD 2 0) h0 ++ (srow 1 1 (x.getD 4 0) h1 ++ (srow 2 0 q h2 ++ []))),ofr [h0,h1,h2] [x.getD 2 0,x.getD 4 0,q]]) (e3.trans e1.symm)
theorem ss_b (v:Value) (h0 h1:HV):ssD 2 (lvT [1,1] 2 2 (2 - 1)) v (sIx (lvT [1,1] 2 2 (2 - 1)) ((2 + 1) * (2 + 1))) [h0,h1] = [oww TSt 5 v 2 (srow 0 0 (mkRat ((1:Nat):Int) 8) h0 ++ (srow 0 1 (mkRat ((5:Nat):Int) 8) h1 ++ [])),ofr [h0,h1] [mkRat ((1:Nat):Int) 8,mkRat ((5:Nat):Int) 8]]:=by
 have h:=ssq_b
 rw [ssx_b]
 generalize lvT [1,1] 2 2 (2 - 1) = x at *
 obtain ⟨e1,e2⟩:=h
 rw [← e1,← e2]
 rfl
theorem stA_tr (s:Value) (hs:s.oneCell' = true):Tr Tryz.prog 25 [s,I ((2:Nat):Int),I ((2:Nat):Int),I ((2:Nat):Int)] [vw s (Is [1,1])] [] fun w D=>∃ v h0 h1 h2,w = tup2 v (I 0)∧D = [oww TSt 5 v 3 (srow 0 2 (mkRat ((1:Nat):Int) 4) h0 ++ (srow 1 1 (mkRat ((1:Nat):Int) 2) h1 ++ (srow 2 0 (mkRat ((1:Nat):Int) 4) h2 ++ []))),ofr [h0,h1,h2] [mkRat ((1:Nat):Int) 4,mkRat ((1:Nat):Int) 2,mkRat ((1:Nat):Int) 4]]:=
 (States_ok s hs [1,1] 2 2 2 solE_one (by decide) (by decide) (by decide) (by decide)).mono fun w D h=>by
  obtain ⟨v,hs,rfl,hv,hl,rfl⟩:=h
  rw [ssx_a] at hl
  obtain ⟨h0,h1,h2,rfl⟩:=len3 hl
  exact ⟨v,h0,h1,h2,rfl,ss_a v h0 h1 h2⟩
theorem stB_tr (s:Value) (hs:s.oneCell' = true):Tr Tryz.prog 25 [s,I ((2:Nat):Int),I ((2:Nat):Int),I ((1:Nat):Int)] [vw s (Is [1,1])] [] fun w D=>∃ v h0 h1,w = tup2 v (I 0)∧D = [oww TSt 5 v 2 (srow 0 0 (mkRat ((1:Nat):Int) 8) h0 ++ (srow 0 1 (mkRat ((5:Nat):Int) 8) h1 ++ [])),ofr [h0,h1] [mkRat ((1:Nat):Int) 8,mkRat ((5:Nat):Int) 8]]:=
 (States_ok s hs [1,1] 2 2 1 solE_one (by decide) (by decide) (by decide) (by decide)).mono fun w D h=>by
  obtain ⟨v,hs,rfl,hv,hl,rfl⟩:=h
  rw [ssx_b] at hl
  obtain ⟨h0,h1,rfl⟩:=len2 hl
  exact ⟨v,h0,h1,rfl,ss_b v h0 h1⟩
theorem stC_tr (s:Value) (hs:s.oneCell' = true):Tr Tryz.prog 18 [s,I ((2:Nat):Int),I ((2:Nat):Int)] [vw s (Is [1])] [] fun w D=>∃ v h0 h1 h2,w = tup2 v (I 0)∧D = [oww TRt 3 v 3 (rcs [mkRat ((1:Nat):Int) 2,mkRat ((1:Nat):Int) 2,mkRat ((0:Nat):Int) 1] [h0,h1,h2]),ofr [h0,h1,h2] [mkRat ((1:Nat):Int) 2,mkRat ((1:Nat):Int) 2,mkRat ((0:Nat):Int) 1]]:=
 (Stuck_tr s hs [1] 2 2 solE_two (by decide) (by decide) (by decide)).mono fun w D h=>by
  obtain ⟨v,hs,rfl,hv,hl,rfl⟩:=h
  obtain ⟨h0,h1,h2,rfl⟩:=len3 hl
  exact ⟨v,h0,h1,h2,rfl,by rw [stL_two]⟩
set_option maxHeartbeats 1000000 in
theorem RippleKnown_tr:Tr Tryz.prog 5 [] [] [] fun v D=>v = .bool true∧D = []:=by
 have hA:=stA_tr
 have hB:=stB_tr
 have hC:=stC_tr
 have hF1:=fun s hs=>fails25_tr s hs [1] 2 2 1 2 (by decide) (by decide) (by decide) (by decide) (by decide) (by decide) failV_two
 have hF2:=fun s hs=>fails25_tr s hs [1] 1 0 1 1 (by decide) (by decide) (by decide) (by decide) (by decide) (by decide) failV_three
 have hE1:=fun s hs=>Fail_tr s hs [1] 1025 1 (by decide) (by decide) (by decide)
 have hE2:=fun s hs=>Fail_tr s hs [1,1] 1 1 (by decide) (by decide) (by decide)
 rw [failV_four] at hE1
 rw [failV_five] at hE2
 unfold FW at hE1 hE2
 dsimp only at hE1 hE2
 have s14:=fun c r a b=>state25_tr c r 1 4 a b (by decide) (by decide) (by decide)
 have s12:=fun c r a b=>state25_tr c r 1 2 a b (by decide) (by decide) (by decide)
 have s18:=fun c r a b=>state25_tr c r 1 8 a b (by decide) (by decide) (by decide)
 have s58:=fun c r a b=>state25_tr c r 5 8 a b (by decide) (by decide) (by decide)
 have hI12:=fun a b=>is25_tr (rqf (mkRat ((1:Nat):Int) 2)) 0 a b 1 2 (by decide) (by decide) (by decide)
 have hI01:=fun a b=>is25_tr (rqf (mkRat ((0:Nat):Int) 1)) 0 a b 0 1 (by decide) (by decide) (by decide)
 simp only [and_self,decide_true] at hI12 hI01
 generalize mkRat ((1:Nat):Int) 2 = q12 at *
 generalize mkRat ((1:Nat):Int) 4 = q14 at *
 generalize mkRat ((1:Nat):Int) 8 = q18 at *
 generalize mkRat ((5:Nat):Int) 8 = q58 at *
 generalize mkRat ((0:Nat):Int) 1 = q01 at *
 refine Tr.enter env _ Tryz.func5 (by kernel_rfl) rfl Tryz.ntmps5 rfl (by repeat (first | exact has00 | refine has01 ?_)) fun w0=>?_
 repeat' first|(refine gca ?_;first|(refine ca (hA v hv) ?_;rintro _ _ ⟨av,a0,a1,a2,rfl,rfl⟩)|(refine ca (hB v hv) ?_;rintro _ _ ⟨bv,b0,b1,rfl,rfl⟩)|(refine ca (hC v hv) ?_;rintro _ _ ⟨cv,c0,c1,c2,rfl,rfl⟩)|(refine ca (hE1 v hv) ?_;rintro _ _ ⟨n1,d1,rfl,hn1,hd1,rfl⟩)|(refine ca (hE2 v hv) ?_;rintro _ _ ⟨n2,d2,rfl,hn2,hd2,rfl⟩))|refine slz fun v hv=>?_|refine al fun c=>?_|refine srz ?_|(refine wo ?_;first|(refine ao ?_;first|refine oa ?_)|refine oa ?_|refine gy ?_)|refine sq ?_|refine rg ?_|refine xc ?_|refine nl ?_
 have fa:=fun (F:List Ch) (h:ofr [a0,a1,a2] [q14,q12,q14] ∈ F) (i:Nat) (hi:i < 3)=>has_fr (has_ofr (hs:=[a0,a1,a2]) (qs:=[q14,q12,q14]) rfl h) rfl (i:=i) hi
 have fb:=fun (F:List Ch) (h:ofr [b0,b1] [q18,q58] ∈ F) (i:Nat) (hi:i < 2)=>has_fr (has_ofr (hs:=[b0,b1]) (qs:=[q18,q58]) rfl h) rfl (i:=i) hi
 have fc:=fun (F:List Ch) (h:ofr [c0,c1,c2] [q12,q12,q01] ∈ F) (i:Nat) (hi:i < 3)=>has_fr (has_ofr (hs:=[c0,c1,c2]) (qs:=[q12,q12,q01]) rfl h) rfl (i:=i) hi
 repeat' first|(refine gca ?_;first|(refine ca (s14 0 2 a0.1 a0.2) ?_ (hp:=has1 (fa _ memA 0 (by decide)).1 (has1 (fa _ memA 0 (by decide)).2 has0));rintro _ _ ⟨rfl,rfl⟩)|(refine ca (s12 1 1 a1.1 a1.2) ?_ (hp:=has1 (fa _ memA 1 (by decide)).1 (has1 (fa _ memA 1 (by decide)).2 has0));rintro _ _ ⟨rfl,rfl⟩)|(refine ca (s14 2 0 a2.1 a2.2) ?_ (hp:=has1 (fa _ memA 2 (by decide)).1 (has1 (fa _ memA 2 (by decide)).2 has0));rintro _ _ ⟨rfl,rfl⟩)|(refine ca (s18 0 0 b0.1 b0.2) ?_ (hp:=has1 (fb _ memA 0 (by decide)).1 (has1 (fb _ memA 0 (by decide)).2 has0));rintro _ _ ⟨rfl,rfl⟩)|(refine ca (s58 0 1 b1.1 b1.2) ?_ (hp:=has1 (fb _ memA 1 (by decide)).1 (has1 (fb _ memA 1 (by decide)).2 has0));rintro _ _ ⟨rfl,rfl⟩)|(refine ca (hI12 c0.1 c0.2) ?_ (hp:=has1 (fc _ memA 0 (by decide)).1 (has1 (fc _ memA 0 (by decide)).2 has0));rintro _ _ ⟨rfl,rfl⟩)|(refine ca (hI12 c1.1 c1.2) ?_ (hp:=has1 (fc _ memA 1 (by decide)).1 (has1 (fc _ memA 1 (by decide)).2 has0));rintro _ _ ⟨rfl,rfl⟩)|(refine ca (hI01 c2.1 c2.2) ?_ (hp:=has1 (fc _ memA 2 (by decide)).1 (has1 (fc _ memA 2 (by decide)).2 has0));rintro _ _ ⟨rfl,rfl⟩)|(refine ca awake25_tr ?_;rintro _ _ ⟨rfl,rfl⟩)|(refine ca (hF1 v hv) ?_;rintro _ _ ⟨rfl,rfl⟩)|(refine ca (hF2 v hv) ?_;rintro _ _ ⟨rfl,rfl⟩))|refine lnw (v:=av) ?_ (hm:=has_oww memA)|refine lnw (v:=bv) ?_ (hm:=has_oww memA)|refine lnw (v:=cv) ?_ (hm:=has_oww memA)|refine ixws (v:=av) ?_ (hm:=has_oww memA)|refine ixws (v:=bv) ?_ (hm:=has_oww memA)|refine ixws (v:=cv) ?_ (hm:=has_oww memA)|refine ldaw (v:=av) (m:=0) (sz:=5) (vs:=srow 0 2 q14 a0) rfl ?_ (hm:=has_oww memA)|refine ldaw (v:=av) (m:=5) (sz:=5) (vs:=srow 1 1 q12 a1) rfl ?_ (hm:=has_oww memA)|refine ldaw (v:=av) (m:=10) (sz:=5) (vs:=srow 2 0 q14 a2) rfl ?_ (hm:=has_oww memA)|refine ldaw (v:=bv) (m:=0) (sz:=5) (vs:=srow 0 0 q18 b0) rfl ?_ (hm:=has_oww memA)|refine ldaw (v:=bv) (m:=5) (sz:=5) (vs:=srow 0 1 q58 b1) rfl ?_ (hm:=has_oww memA)|refine ldaw (v:=cv) (m:=0) (sz:=3) (vs:=rrow q12 c0) rfl ?_ (hm:=has_oww memA)|refine ldaw (v:=cv) (m:=3) (sz:=3) (vs:=rrow q12 c1) rfl ?_ (hm:=has_oww memA)|refine ldaw (v:=cv) (m:=6) (sz:=3) (vs:=rrow q01 c2) rfl ?_ (hm:=has_oww memA)|refine slz fun v hv=>?_|(refine wo ?_;first|(refine ao ?_;first|refine oa ?_)|refine oa ?_|refine gy ?_)|(refine gc ?_;first|refine cf ?_)|refine sq ?_|refine rg ?_|refine xc ?_|refine nl ?_|refine sk ?_|refine rt ?_
 exact r1 ⟨rfl,rfl⟩
end Go.Art
namespace Go.Art
open Go Go.Proofs Go.RowKit
structure WholeF (n:Nat) (x:List Rat) (is:List Nat):Prop where
 sum:sR (fun i=>x.getD i 0) is = 1
 pre:∀ i,FB (sR (fun i=>x.getD i 0) (is.take i)) 8589934592
 one:∀ i,i < is.length→FB (x.getD (is.getD i 0) 0) 8589934592
 at_:∀ i,i < is.length→is.getD i 0 / (n + 1) + is.getD i 0 % (n + 1) = n
open Go Go.Proofs Go.RowKit
section
variable {P:Program} {E:Env P} {n:Sh} {X:Cx} {s:List K} {fr:Fr} {A A':List Ch} {ops:Array Oper} {rest:List Oper} {d m N sz by_:Nat} {ty t t' el:TypeId} {pos:String} {after:Array Edge} {v u z:Value} {x y:Operand} {xs vs:List Value} {dt:TypeDesc} {k1 k':IntKind} {w:World}
end
structure WgG where
 i:Nat
 a:Value
 b:Value
attribute [local irreducible] Fit pt own ro vw mpc lpt vels rels mow lrc dfr
attribute [local irreducible] lmp lme mit velg relg bnd owl dfrl massW setsW massD smlT solE failV failQ stL natG itemS oneS
end Go.Art
namespace Go.Art
open Go Go.Proofs Go.RowKit
section
variable {β:Type}
theorem takeS {α:Type} {l:List α} {i:Nat} (h:i < l.length) (d:α):l.take (i + 1) = l.take i ++ [l.getD i d]:=by
 rw [List.take_add_one,List.getD_eq_getElem?_getD,List.getElem?_eq_getElem h];rfl
def ctR (φ:List β→Nat) (L:List (β × Rat)):Nat→List β→Rat→List Rat→List Rat
 | 0,b,p,a=>a.set (φ b) (a.getD (φ b) 0 + p)
 | n + 1,b,p,a=>L.foldl (fun a s=>ctR φ L n (b ++ [s.1]) (p * s.2) a) a
def ctF (φ:List β→Nat) (L:List (β × Rat)) (n:Nat) (b:List β) (p:Rat) (a:List Rat) (i:Nat):List Rat:=(L.take i).foldl (fun a s=>ctR φ L n (b ++ [s.1]) (p * s.2) a) a
theorem ctF_all (φ:List β→Nat) (L:List (β × Rat)) (n:Nat) (b:List β) (p:Rat) (a:List Rat):ctF φ L n b p a L.length = ctR φ L (n + 1) b p a:=by
 unfold ctF;rw [List.take_length];rfl
theorem ctF_zero (φ:List β→Nat) (L:List (β × Rat)) (n:Nat) (b:List β) (p:Rat) (a:List Rat):ctF φ L n b p a 0 = a:=rfl
theorem ctF_step (φ:List β→Nat) (L:List (β × Rat)) (n:Nat) (b:List β) (p:Rat) (a:List Rat) {i:Nat} (h:i < L.length) (d:β × Rat):ctF φ L n b p a (i + 1) = ctR φ L n (b ++ [(L.getD i d).1]) (p * (L.getD i d).2) (ctF φ L n b p a i):=by
 unfold ctF;rw [takeS h d,List.foldl_append];rfl
theorem ct_fold {φ:List β→Nat} {L:List (β × Rat)} {n:Nat} {b:List β} {p:Rat} (H:∀ (s:β × Rat) (a:List Rat),(ctR φ L n (b ++ [s.1]) (p * s.2) a).length = a.length):∀ (M:List (β × Rat)) (a:List Rat),(M.foldl (fun a s=>ctR φ L n (b ++ [s.1]) (p * s.2) a) a).length = a.length
 | [],_=>rfl
 | s :: M,a=>by rw [List.foldl_cons,ct_fold H M,H]
theorem ctR_len (φ:List β→Nat) (L:List (β × Rat)):∀ (n:Nat) (b:List β) (p:Rat) (a:List Rat),(ctR φ L n b p a).length = a.length
 | 0,b,p,a=>List.length_set
 | n + 1,b,p,a=>ct_fold (fun s a=>ctR_len φ L n _ _ a) L a
theorem ctF_len (φ:List β→Nat) (L:List (β × Rat)) (n:Nat) (b:List β) (p:Rat) (a:List Rat) (i:Nat):(ctF φ L n b p a i).length = a.length:=ct_fold (fun s a=>ctR_len φ L n _ _ a) _ a
abbrev atG (φ:List β→Nat) (L:List (β × Rat)) (n:Nat) (b:List β) (u:Nat):Rat:=tG L n fun l=>if φ (b ++ l) = u then 1 else 0
theorem ct_foldV {φ:List β→Nat} {L:List (β × Rat)} {n N:Nat} {b:List β} {p:Rat} (H:∀ (s:β × Rat) (a:List Rat) (u:Nat),a.length = N→u < N→(ctR φ L n (b ++ [s.1]) (p * s.2) a).getD u 0 = a.getD u 0 + p * s.2 * atG φ L n (b ++ [s.1]) u) :
  ∀ (M:List (β × Rat)) (a:List Rat) (u:Nat),a.length = N→u < N→(M.foldl (fun a s=>ctR φ L n (b ++ [s.1]) (p * s.2) a) a).getD u 0 = a.getD u 0 + p * sR (fun s=>s.2 * atG φ L n (b ++ [s.1]) u) M
 | [],a,u,_,_=>by show _ = _ + p * 0;rw [Rat.mul_zero,Rat.add_zero];rfl
 | s :: M,a,u,ha,hu=>by
  rw [List.foldl_cons,ct_foldV H M _ u (by rw [ctR_len,ha]) hu,H s a u ha hu]
  show _ = _ + p * (s.2 * _ + sR _ M)
  grind
theorem ctR_val {φ:List β→Nat} {N:Nat} (hφ:∀ l,φ l < N) (L:List (β × Rat)):∀ (n:Nat) (b:List β) (p:Rat) (a:List Rat) (u:Nat),a.length = N→u < N→(ctR φ L n b p a).getD u 0 = a.getD u 0 + p * atG φ L n b u
 | 0,b,p,a,u,ha,hu=>by
  unfold ctR atG
  simp only [tG,List.append_nil]
  rw [getD_setR _ _ _ _ (by rw [ha];exact hφ b)]
  by_cases e:φ b = u
  ·subst e;rw [if_pos rfl,if_pos rfl,Rat.mul_one]
  ·rw [if_neg (Ne.symm e),if_neg e,Rat.mul_zero,Rat.add_zero]
 | n + 1,b,p,a,u,ha,hu=>by
  have h:=ct_foldV (φ:=φ) (L:=L) (n:=n) (N:=N) (b:=b) (p:=p) (fun s a u ha hu=>ctR_val hφ L n _ _ a u ha hu) L a u ha hu
  show (L.foldl _ a).getD u 0 = _
  rw [h]
  unfold atG
  simp only [tG,List.append_assoc,List.singleton_append]
theorem ctF_val {φ:List β→Nat} {N:Nat} (hφ:∀ l,φ l < N) (L:List (β × Rat)) (n:Nat) (b:List β) (p:Rat) (a:List Rat) (i u:Nat) (ha:a.length = N) (hu:u < N):(ctF φ L n b p a i).getD u 0 = a.getD u 0 + p * sR (fun s=>s.2 * atG φ L n (b ++ [s.1]) u) (L.take i):=
 ct_foldV (fun s a u ha hu=>ctR_val hφ L n _ _ a u ha hu) _ a u ha hu
structure Chn (O:Nat) (L:List (β × Rat)):Prop where
 fr:∀ s ∈ L,FrQ O s.2
 one:sR (·.2) L ≤ 1
theorem Chn.pos {O:Nat} {L:List (β × Rat)} (h:Chn O L):∀ s ∈ L,0 ≤ s.2:=fun s hs=>(h.fr s hs).nonneg
theorem Chn.tG01 {O:Nat} {L:List (β × Rat)} (h:Chn O L):∀ (n:Nat) (F:List β→Rat),(∀ l,0 ≤ F l∧F l ≤ 1)→0 ≤ tG L n F∧tG L n F ≤ 1
 | 0,F,hF=>hF []
 | n + 1,F,hF=>by
  have ih:=fun x=>h.tG01 n (fun l=>F (x :: l)) fun l=>hF (x :: l)
  simp only [tG]
  refine ⟨sR_nonneg fun s hs=>Rat.mul_nonneg (h.pos s hs) (ih s.1).1,Rat.le_trans (sR_le (g:=(·.2)) fun s hs=>?_) h.one⟩
  have h1:=Rat.mul_le_mul_of_nonneg_left (ih s.1).2 (h.pos s hs)
  rwa [Rat.mul_one] at h1
theorem Chn.tGfr {O:Nat} {L:List (β × Rat)} (h:Chn O L):∀ (n:Nat) (F:List β→Rat),(∀ l,FrQ 1 (F l))→FrQ (O ^ n) (tG L n F)
 | 0,F,hF=>by rw [Nat.pow_zero];exact hF []
 | n + 1,F,hF=>by
  simp only [tG]
  refine FrQ.sum fun s hs=>?_
  rw [Nat.pow_succ,Nat.mul_comm]
  exact (h.fr s hs).mul (h.tGfr n _ fun l=>hF (s.1 :: l))
theorem ite01 (p:Prop) [Decidable p]:0 ≤ (if p then (1:Rat) else 0)∧(if p then (1:Rat) else 0) ≤ 1:=by split <;> decide
theorem ite_fr (p:Prop) [Decidable p]:FrQ 1 (if p then (1:Rat) else 0):=by split;exact FrQ.nat 1;exact FrQ.nat 0
theorem Chn.at01 {O:Nat} {L:List (β × Rat)} (h:Chn O L) (φ:List β→Nat) (n:Nat) (b:List β) (u:Nat):0 ≤ atG φ L n b u∧atG φ L n b u ≤ 1:=h.tG01 n _ fun l=>ite01 _
theorem Chn.atfr {O:Nat} {L:List (β × Rat)} (h:Chn O L) (φ:List β→Nat) (n:Nat) (b:List β) (u:Nat):FrQ (O ^ n) (atG φ L n b u):=h.tGfr n _ fun l=>ite_fr _
structure Acc (N E:Nat) (p:Rat) (a:List Rat):Prop where
 len:a.length = N
 fr:∀ u,u < N→FrQ E (a.getD u 0)
 le:∀ u,u < N→a.getD u 0 + p ≤ 1
theorem sR_take_le {α:Type} {f:α→Rat} {l:List α} (h:∀ x ∈ l,0 ≤ f x) (i:Nat):sR f (l.take i) ≤ sR f l:=by
 have h1:=sR_app f (l.take i) (l.drop i)
 rw [List.take_append_drop] at h1
 have h2:0 ≤ sR f (l.drop i):=sR_nonneg fun x hx=>h x (List.mem_of_mem_drop hx)
 grind
theorem Acc.step {φ:List β→Nat} {N O d n:Nat} {L:List (β × Rat)} {b:List β} {p:Rat} {a:List Rat} (hφ:∀ l,φ l < N) (hL:Chn O L) (hp:FrQ (O ^ d) p) (h:Acc N (O ^ (d + (n + 1))) p a) {i:Nat} (hi:i < L.length) (x:β × Rat) :
  Acc N (O ^ (d + 1 + n)) (p * (L.getD i x).2) (ctF φ L n b p a i):=by
 have hmem:L.getD i x ∈ L:=by rw [List.getD_eq_getElem?_getD,List.getElem?_eq_getElem hi];exact List.getElem_mem hi
 refine ⟨by rw [ctF_len,h.len],fun u hu=>?_,fun u hu=>?_⟩
 ·rw [ctF_val hφ L n b p a i u h.len hu]
  have h1:=h.fr u hu
  rw [show d + (n + 1) = d + 1 + n by omega] at h1
  refine h1.add ?_
  rw [show O ^ (d + 1 + n) = O ^ d * (O * O ^ n) by rw [Nat.pow_add,Nat.pow_succ,Nat.mul_assoc]]
  exact hp.mul (FrQ.sum fun s hs=>(hL.fr s (List.mem_of_mem_take hs)).mul (hL.atfr φ n _ u))
 ·rw [ctF_val hφ L n b p a i u h.len hu]
  have h1:sR (fun s=>s.2 * atG φ L n (b ++ [s.1]) u) (L.take i) ≤ sR (·.2) (L.take i):=sR_le fun s hs=>by
   have:=Rat.mul_le_mul_of_nonneg_left (hL.at01 φ n (b ++ [s.1]) u).2 (hL.pos s (List.mem_of_mem_take hs))
   rwa [Rat.mul_one] at this
  have h2:sR (·.2) (L.take i) + (L.getD i x).2 ≤ 1:=by
   have h3:=sR_take_le (f:=fun s:β × Rat=>s.2) hL.pos (i + 1)
   rw [takeS hi x,sR_app] at h3
   have h4:sR (·.2) [L.getD i x] = (L.getD i x).2:=by show _ + 0 = _;exact Rat.add_zero _
   rw [h4] at h3
   exact Rat.le_trans h3 hL.one
  have h5:p * sR (fun s=>s.2 * atG φ L n (b ++ [s.1]) u) (L.take i) + p * (L.getD i x).2 ≤ p:=by
   have h6:sR (fun s=>s.2 * atG φ L n (b ++ [s.1]) u) (L.take i) + (L.getD i x).2 ≤ 1:=by grind
   have h7:=Rat.mul_le_mul_of_nonneg_left h6 hp.nonneg
   rw [Rat.mul_one,Rat.mul_add] at h7
   exact h7
  have h8:=h.le u hu
  generalize p * sR (fun s=>s.2 * atG φ L n (b ++ [s.1]) u) (L.take i) = z at *
  grind
end
abbrev chnS (t:List Int) (k:Nat):List (List Int × Rat):=(itemS t k).map fun s=>(s.1,(s.2:Rat) / (oneS t k:Rat))
theorem chnS_ok {t:List Int} {k:Nat} (hz:solE t k = 0):Chn (oneS t k) (chnS t k):=by
 refine ⟨fun s hs=>?_,?_⟩
 ·obtain ⟨x,_,rfl⟩:=List.mem_map.1 hs
  exact ⟨x.2,rfl⟩
 ·have h1:=item_ev t k fun _=>1
  rw [sR_congr (f:=fun s:List Int × Rat=>s.2 * 1) (l:=tabX t k) (g:=(·.2)) fun s _=>Rat.mul_one _,tabX_one hz,sR_congr (f:=fun s:List Int × Rat=>s.2 * 1) (l:=chnS t k) (g:=(·.2)) fun s _=>Rat.mul_one _] at h1
  rw [h1];exact Rat.le_refl
theorem chnS_len (t:List Int) (k:Nat):(chnS t k).length = (setP t k t.length).length:=by rw [List.length_map,itemS_len]
theorem chnS_get {t:List Int} {k i:Nat} (hz:solE t k = 0) (h:i < (setP t k t.length).length):(chnS t k).getD i ([],0) = ((setP t k t.length).getD i [],mkRat (t.getD (((setP t k t.length).getD i []).length - 1) 0) (chs k ((setP t k t.length).getD i []).length * t.sum.toNat)):=by
 have hm:(setP t k t.length).getD i [] ∈ setP t k t.length:=by rw [List.getD_eq_getElem?_getD,List.getElem?_eq_getElem h];exact List.getElem_mem h
 obtain ⟨p1,p2,_,_⟩:=setP_mem hm
 rw [cha_eq hz p1 p2,Rat.mkRat_eq_div]
 have e:(chnS t k).getD i ([],0) = ((setP t k t.length).getD i [],(wS t k ((setP t k t.length).getD i []).length:Rat) / (oneS t k:Rat)):=by
  simp [chnS,itemS,List.getD_eq_getElem?_getD,h]
 rw [e]
 push_cast
 rfl
theorem large_lt (k:Nat) (l:List (List Int)):(largeR k l).length < k + 1:=by
 unfold largeR
 split
 ·have h1:(largeL k l).length ≤ (belowI (k:Int)).length:=by unfold largeL;exact List.length_filter_le _ _
  have h2:=(ev_belowI k).2.1
  omega
 ·exact Nat.succ_pos k
theorem sR_only {f:Nat→Rat} {u:Nat}:∀ {N:Nat},u < N→sR (fun v=>(if v = u then (1:Rat) else 0) * f v) (List.range N) = f u
 | 0,h=>absurd h (Nat.not_lt_zero u)
 | N + 1,h=>by
  rw [List.range_succ,sR_app]
  have h1:sR (fun v=>(if v = u then (1:Rat) else 0) * f v) [N] = (if N = u then (1:Rat) else 0) * f N:=by show _ + 0 = _;exact Rat.add_zero _
  rw [h1]
  by_cases e:u < N
  ·rw [sR_only e,if_neg (by omega),Rat.zero_mul,Rat.add_zero]
  ·obtain rfl:u = N:=by omega
   rw [if_pos rfl,Rat.one_mul,sR_congr (g:=fun _=>0) fun v hv=>by rw [if_neg (by have:=List.mem_range.1 hv;omega),Rat.zero_mul],sR_zero,Rat.zero_add]
theorem cnt_true {t:List Int} {k:Nat} (hz:solE t k = 0) (n:Nat):ctR (fun l=>(largeR k l).length) (chnS t k) n [] 1 (List.replicate (k + 1) 0) = stL t k n:=by
 obtain ⟨z1,z2,z3,z4⟩:=solE_zero hz
 refine List.ext_getElem (by rw [ctR_len,List.length_replicate,stL_len]) fun u h1 h2=>?_
 have hu:u < k + 1:=by rw [stL_len] at h2;exact h2
 have h3:=ctR_val (fun l=>large_lt k l) (chnS t k) n [] 1 (List.replicate (k + 1) 0) u (by simp) hu
 have h4:=stL_get (t:=t) (k:=k) (n:=n) hu
 have h5:(ctR (fun l=>(largeR k l).length) (chnS t k) n [] 1 (List.replicate (k + 1) 0)).getD u 0 = stT t k n u:=by
  rw [h3,getD_repl,Rat.zero_add,Rat.one_mul]
  unfold atG
  rw [tG_same (item_ev t k)]
  have h6:=ripple_tab hz (fun v=>if v = u then 1 else 0) n
  have h7:sR (fun v=>(if v = u then (1:Rat) else 0) * stT t k n v) (List.range (k + 1)) = stT t k n u:=sR_only hu
  rw [h7] at h6
  rw [h6]
  refine tG_congr fun ls _ hls=>?_
  rw [List.nil_append]
  have hst:stopE k ls = 0:=by
   unfold stopE
   rw [if_neg (by omega),if_neg]
   intro hc
   obtain ⟨l,hl,hb⟩:=List.any_eq_true.1 hc
   obtain ⟨w,hw⟩:=hls l hl
   obtain ⟨h5,i,hi,h6,_⟩:=ev_nd _ hw
   have h7:=ris_hi h6
   have h8:isSet k l = true:=isSet_iff.2 ⟨fun e=>by rw [e] at h7;simp at h7,h5,fun x hx=>⟨by have:=ris_lo h6 x hx;omega,h7.2 x hx⟩⟩
   rw [h8] at hb;cases hb
  show (if (largeR k ls).length = u then (1:Rat) else 0) = _
  rw [show largeR k ls = largeL k ls by unfold largeR;rw [if_pos hst]]
 have h8:(stL t k n)[u] = stT t k n u:=by
  rw [← h4];simp [List.getD_eq_getElem?_getD,h2]
 rw [h8,← h5]
 simp [List.getD_eq_getElem?_getD,h1]
theorem stopE_snoc {k:Int} {b:List (List Int)} {s:List Int} (h:stopE k b = 0) (hs:isSet k s = true):stopE k (b ++ [s]) = 0:=by
 unfold stopE at *
 split at h
 ·cases h
 ·rename_i h1
  split at h
  ·cases h
  ·rename_i h2
   rw [if_neg h1,if_neg]
   rw [List.any_append]
   simp only [List.any_cons,List.any_nil,hs]
   simpa using h2
theorem ris_up:∀ (d f k:Nat) (l:List Int),l ∈ risR d f k→l.Pairwise (· < ·)
 | 0,f,k,l,h=>by rw [List.mem_singleton.1 h];exact List.Pairwise.nil
 | d + 1,f,k,l,h=>by
  obtain ⟨j,hj,h1⟩:=List.mem_flatMap.1 h
  obtain ⟨m,hm,rfl⟩:=List.mem_map.1 h1
  refine List.pairwise_cons.2 ⟨fun y hy=>?_,ris_up d _ k m hm⟩
  have:=(risR_mem _ _ _ _ hm).2 y hy
  omega
theorem setP_le (t:List Int) (k:Nat):∀ n,(setP t k n).length ≤ n * 2 ^ k
 | 0=>by simp [setP]
 | n + 1=>by
  rw [setP_succ,List.length_append,szL_len,Nat.succ_mul]
  have h1:=setP_le t k n
  have h2:=chs_bnd k (n + 1)
  split <;> omega
theorem setP_isSet {t:List Int} {k i:Nat} (h:i < (setP t k t.length).length):isSet k ((setP t k t.length).getD i []) = true:=by
 have hm:(setP t k t.length).getD i [] ∈ setP t k t.length:=by rw [List.getD_eq_getElem?_getD,List.getElem?_eq_getElem h];exact List.getElem_mem h
 obtain ⟨p1,p2,p3,p4⟩:=setP_mem hm
 exact isSet_iff.2 ⟨fun e=>by rw [e] at p1;simp at p1,ris_up _ _ _ _ p4,fun x hx=>by have:=(risR_mem _ _ _ _ p4).2 x hx;omega⟩
theorem chnS_FB {t:List Int} {k i:Nat} (hz:solE t k = 0) (hk:k ≤ 40) (hl:t.length ≤ 12) (h:i < (chnS t k).length):FB ((chnS t k).getD i ([],0)).2 10:=by
 have h':i < (itemS t k).length:=by rwa [List.length_map] at h
 have hm:(itemS t k).getD i ([],0) ∈ itemS t k:=by rw [List.getD_eq_getElem?_getD,List.getElem?_eq_getElem h'];exact List.getElem_mem h'
 have e:((chnS t k).getD i ([],0)).2 = (((itemS t k).getD i ([],0)).2:Rat) / (oneS t k:Rat):=by simp [chnS,List.getD_eq_getElem?_getD,h']
 rw [e]
 exact FB_nat (oneS_pos hz) (Nat.lt_of_le_of_lt (itemS_le hz _ hm) (oneS_lt hz hk hl)) (oneS_lt hz hk hl)
theorem chnS_fr {t:List Int} {k i:Nat} (hz:solE t k = 0) (h:i < (chnS t k).length):FrQ (oneS t k) ((chnS t k).getD i ([],0)).2:=(chnS_ok hz).fr _ (by rw [List.getD_eq_getElem?_getD,List.getElem?_eq_getElem h];exact List.getElem_mem h)
end Go.Art
namespace Go.Art
open Go Go.Proofs Go.RowKit
theorem R_lenK {P:Program} {E:Env P} {n:Sh} {fr:Fr} {w:World} {t ty e:TypeId} {x:Operand} {v:Value} {l:List Int} {j:Nat} (ht:lk E.und t = some (.slice e)) (hx:ev fr x = some v) (hS:Sl w v (Is l)) (hj:l.length = j):OpV P n fr (.call ⟨.builtin .len,#[x],#[t]⟩) ty w (I j) w:=by
 have:=R_len (P:=P) (n:=n) (ty:=ty) ht hx hS;rw [Is_len,hj] at this;exact this
structure CnG where
 i:Nat
 hs:List HV
theorem has_velg_sn {g:Int→Value} {F:List Ch} {v:Value} {l:List Int}:∀ {hs:List Value} {ls:List (List Int)},hs.length = ls.length→Has F (velg g hs ls)→Has F (vw v (l.map g))→Has F (velg g (hs ++ [v]) (ls ++ [l]))
 | [],[],_,_,h=>has_velg_cons h has_velg_nil
 | a :: hs,b :: ls,hl,k,h=>by
  have hk:Has F (velg g hs ls):=⟨fun w hw=>by
   obtain ⟨k1,k2⟩:=(k.P w hw:elgP g (a :: hs) (b :: ls) w)
   exact ⟨by simpa using k1,fun i hi=>by have:=k2 (i + 1) (by simpa using hi);simpa using this⟩,fun _ h=>h,fun _ h=>h,fun b' hb=>k.ft b' (by
    rcases hb with hb | hb | ⟨i,hi,h1,h2⟩
    ·exact hb.elim
    ·exact hb.elim
    ·exact .inr (.inr ⟨i + 1,by simpa using hi,by simpa using h1,by simpa using h2⟩))⟩
  exact has_velg_cons (has_elg k (i:=0) (by simp)) (has_velg_sn (by simpa using hl) hk h)
 | [],b :: ls,hl,_,_=>by simp at hl
 | a :: hs,[],hl,_,_=>by simp at hl
theorem elg_onesL {g:Int→Value} {F:List Ch} {ss:List Value} {ls:List (List Int)} (h:Has F (velg g ss ls)) (hl:ss.length = ls.length) (w:World) (hw:Sat F w):∀ c ∈ ss,c.oneCell' = true:=fun c hc=>by
 obtain ⟨i,hi,rfl⟩:=List.mem_iff_getElem.1 hc
 have:=elg_one h (i:=i) (by omega) w hw
 rwa [List.getD_eq_getElem?_getD,List.getElem?_eq_getElem hi] at this
theorem oneS_pow {t:List Int} {k d:Nat} (hz:solE t k = 0) (hk:k ≤ 40) (hl:t.length ≤ 12) (hd:d ≤ 12):oneS t k ^ d ≠ 0∧oneS t k ^ d < 18446744073709551616 ^ 121:=by
 have h0:=oneS_pos hz
 refine ⟨Nat.ne_of_gt (Nat.pow_pos (Nat.pos_of_ne_zero h0)),?_⟩
 refine Nat.lt_of_le_of_lt (Nat.pow_le_pow_left (Nat.le_of_lt (oneS_lt hz hk hl)) d) ?_
 rw [← Nat.pow_mul]
 exact Nat.pow_lt_pow_right (by decide) (by omega)
theorem Acc.p_le {N E:Nat} {p:Rat} {a:List Rat} (h:Acc N E p a) (hN:0 < N):p ≤ 1:=by
 have h1:=h.le 0 hN
 have h2:=(h.fr 0 hN).nonneg
 grind
theorem Acc.init {N E:Nat} (hE:E ≠ 0):Acc N E 1 (List.replicate N 0):=⟨by simp,fun u _=>by rw [getD_repl];exact FrQ.zero E,fun u _=>by rw [getD_repl,Rat.zero_add];exact Rat.le_refl⟩
attribute [local irreducible] Fit pt own ro vw mpc lpt vels rels mow lrc dfr
attribute [local irreducible] lmp lme mit velg relg bnd owl dfrl massW setsW massD smlT solE failV failQ stL setP oneS ctR ctF
theorem counts_tr (tv sv uv:Value) (t:List Int) (k:Nat) (ss:List Value) (hz:solE t k = 0) (hk:k ≤ 40) (hl:t.length ≤ 12) (hss:ss.length = (setP t k t.length).length) (hSb:(setP t k t.length).length ≤ 4096) :
  ∀ (n d:Nat) (bv pn pd:Value) (bs:List Value) (bl:List (List Int)) (p:Rat) (a:List Rat) (hs:List HV),bs.length = bl.length→stopE k bl = 0→bl.length + n ≤ 12→d + n ≤ 12→pn.oneCell' = true→pd.oneCell' = true→FrQ (oneS t k ^ d) p→Acc (k + 1) (oneS t k ^ (d + n)) p a→hs.length = k + 1 →
   Tr Tryz.prog 36 [tv,I k,sv,bv,rv p pn pd,I n,uv] [vw tv (Is t),vw sv ss,velg I ss (setP t k t.length),vw bv bs,velg I bs bl,vw pn (Us (dg p.num.natAbs)),vw pd (Us (dg p.den))] [oww TRt 3 uv (k + 1) (rcs a hs),ofr hs a]
    fun u D=>∃ hs',u = .bool true∧hs'.length = k + 1∧D = [oww TRt 3 uv (k + 1) (rcs (ctR (fun l=>(largeR k l).length) (chnS t k) n bl p a) hs'),ofr hs' (ctR (fun l=>(largeR k l).length) (chnS t k) n bl p a)]
 | 0,d,bv,pn,pd,bs,bl,p,a,hs,hbl,hst,hb12,hd12,hpn,hpd,hp,hA,hhs=>by
  have hLg:=Largest_tr k bv bs bl (by omega)
  rw [hst] at hLg
  have hlt:=large_lt k bl
  obtain ⟨E0,E1⟩:=oneS_pow hz hk hl (d:=d) (by omega)
  have hpF:FB p 8589934592:=(FB_le1 hp E0 (hA.p_le (Nat.succ_pos k)) E1).le (by decide)
  obtain ⟨j,hj⟩ : ∃ j,(largeR k bl).length = j:=⟨_,rfl⟩
  rw [hj] at hlt
  have hal:=hA.len
  have h1:=hA.le j hlt
  have h2:=hA.fr j hlt
  rw [Nat.add_zero] at h2
  have hp0:=hp.nonneg
  have hqF:FB (a.getD j 0) 8589934592:=(FB_le1 h2 E0 (by grind) E1).le (by decide)
  have hAdd:=fun lv v1 v2 v3 v4=>FAdd2_tr (a.getD j 0) p lv v1 v2 v3 v4 hqF hpF
  have hC:ctR (fun l=>(largeR k l).length) (chnS t k) 0 bl p a = a.set j (a.getD j 0 + p):=by unfold ctR;rw [hj]
  rw [hC]
  have hrow0:=rcs_row (qs:=a) (hs:=hs) (i:=j) (by omega) (by omega)
  obtain ⟨q2,hq2⟩ : ∃ q2,q2 = a.getD j 0 + p:=⟨_,rfl⟩
  simp only [← hq2] at hAdd ⊢
  have hrs:=fun x y=>rcs_set (qs:=a) (hs:=hs) (by omega) (i:=j) (by omega) q2 (x,y)
  have hfr:∀ F,ofr hs a ∈ F→Has F (vw (hs.getD j nS2).1 (Us (dg (a.getD j 0).num.natAbs)))∧Has F (vw (hs.getD j nS2).2 (Us (dg (a.getD j 0).den))):=fun F h=>has_fr (has_ofr (by omega) h) (by omega) (by omega)
  obtain ⟨q0,hq0⟩ : ∃ q0,q0 = a.getD j 0:=⟨_,rfl⟩
  rw [← hq0] at hrow0
  simp only [← hq0] at hAdd hfr
  unfold FQ2 at hAdd
  have hset:∀ v1 v2 (A F:List Ch),Fit A [own T64 v1 (Us (dg q2.num.natAbs)),own T64 v2 (Us (dg q2.den)),ofr hs a] F→Im A (ofr (hs.set j (v1,v2)) (a.set j q2) :: F):=fun v1 v2 A F h=>ofr_set (hs:=hs) (qs:=a) (by omega) (i:=j) (by omega) q2 v1 v2 h
  clear hA hC h1 h2 hp0 hqF hpF E0 E1 hz hp
  generalize largeR k bl = lg at *
  refine Tr.enter env _ Tryz.func36 (by kernel_rfl) rfl Tryz.ntmps36 rfl (by repeat (first | exact has00 | refine has01 ?_)) fun w0=>?_
  repeat' first|(refine gca ?_;first|(refine ca hLg ?_ (hp:=has1 hasA (has1 (has_velsI (has_velg memA)) has0));rintro _ _ ⟨o,rfl,rfl⟩))|refine bx fun c11=>?_|refine lnw (N:=k + 1) (xs:=rcs a hs) ?_ (hm:=has_oww memA)|(refine wo ?_;first|(refine ao ?_;first|refine oa ?_)|refine oa ?_|refine lnm ?_|refine gy ?_)|(refine gc ?_;first|refine ct ?_|(refine ci (fun hB=>?_) (fun hB=>?_) <;> try (exfalso;omega)))|refine sq ?_|refine rg ?_|refine xc ?_|refine nl ?_|refine sk ?_
  refine rs (fun w=>SlW w uv (k + 1) []∧Sl w o (Is lg)∧w.heap[c11]? = some (.cells (rrow p (pn,pd)).toArray TRt (0,0))) ?_ (fun w hw=>⟨oww_len (e:=TRt) (sz:=3) (v:=uv) (N:=k + 1) memA hw,has_sl (xs:=Is lg) hw hasA,pt_at memA hw⟩)
  refine tka 0 ?_
  refine tka 1 ?_
  refine tk 2 (v:=I j) (fun w h=>R_lenK (E:=env) rfl rfl h.2.1 hj) ?_
  refine tka 3 ?_
  refine tka 4 ?_
  refine tk 5 (v:=I j) (fun w h=>R_lenK (E:=env) rfl rfl h.2.1 hj) ?_
  refine tk 6 (v:=.pointer (some (adr uv (3 * j)))) (fun w h=>R_idxW (E:=env) (i:=(j:Int)) rfl rfl rfl rfl h.1 ⟨by omega,by omega⟩) ?_
  refine tk 8 (v:=.agg (rrow p (pn,pd)).toArray) (fun w h=>R_loadA (E:=env) (vs:=rrow p (pn,pd)) rfl rfl rfl rfl h.2.2 rfl rfl) ?_
  refine t1 7 ?_
  refine ldaw (N:=k + 1) (xs:=rcs a hs) (m:=3 * j) hrow0 ?_ (hm:=has_oww memA)
  refine nl ?_
  refine te (fun w hw=>⟨oww_len (e:=TRt) (sz:=3) (v:=uv) (N:=k + 1) memA hw,has_sl (xs:=Is lg) hw hasA,pt_at memA hw⟩) ?_
  refine t1 9 ?_
  refine slws fun g2=>?_
  refine nl ?_
  refine te (fun w hw=>⟨oww_len (e:=TRt) (sz:=3) (v:=uv) (N:=k + 1) memA hw,has_sl (xs:=Is lg) hw hasA,pt_at memA hw⟩) ?_
  refine t1 10 ?_
  refine ca (hAdd _ (hs.getD j nS2).1 (hs.getD j nS2).2 pn pd) ?_ (hp:=has1 (has_oww memA) (has1 (hfr _ memA).1 (has1 (hfr _ memA).2 (has1 hasA (has1 hasA has0)))))
  rintro _ _ ⟨vn2,vd2,rfl,hvn2,hvd2,rfl⟩
  refine nl ?_
  refine te (fun w hw=>⟨oww_len (e:=TRt) (sz:=3) (v:=uv) (N:=k + 1) memA hw,has_sl (xs:=Is lg) hw hasA,pt_at memA hw⟩) ?_
  refine tka 11 ?_
  refine tka 12 ?_
  refine tka 13 ?_
  refine tk 14 (v:=.pointer (some (adr uv (3 * j)))) (fun w h=>R_idxW (E:=env) (i:=(j:Int)) rfl rfl rfl rfl h.1 ⟨by omega,by omega⟩) ?_
  refine t1 15 ?_
  refine sow (sz:=3) (m:=3 * j) (N:=k + 1) (xs:=rcs a hs) (vs:=[.bool (decide (q2.num < 0)),vn2,vd2]) (by omega) ?_ (h1:=one_cons rfl (one_cons hvn2 (one_cons hvd2 one_nil)))
  refine nl ?_
  refine te (fun w hw=>⟨oww_len (e:=TRt) (sz:=3) (v:=uv) (N:=k + 1) memA hw,has_sl (xs:=Is lg) hw hasA,pt_at memA hw⟩) ?_
  refine tka 16 ?_
  refine t0 ?_
  repeat' first|(refine wo ?_;first|(refine ao ?_;first|refine oa ?_)|refine oa ?_)|refine sq ?_|refine rg ?_|refine xc ?_|refine nl ?_|refine rt ?_
  refine TX.im (hset vn2 vd2 _ _ fitA) ?_
  rw [hrs vn2 vd2]
  exact r1 ⟨hs.set j (vn2,vd2),rfl,by simp [hhs],rfl⟩
 | n + 1,d,bv,pn,pd,bs,bl,p,a,hs,hbl,hst,hb12,hd12,hpn,hpd,hp,hA,hhs=>by
  have hrec:=fun bv' pn' pd' bs' bl' p' a' hs'=>counts_tr tv sv uv t k ss hz hk hl hss hSb n (d + 1) bv' pn' pd' bs' bl' p' a' hs'
  obtain ⟨z1,z2,z3,z4⟩:=solE_zero hz
  have hO:=chnS_ok hz
  have hLen:=chnS_len t k
  have hget:=fun i (hi:i < (setP t k t.length).length)=>chnS_get hz hi
  have hstep:=fun i (hi:i < (chnS t k).length)=>Acc.step (φ:=fun l=>(largeR k l).length) (b:=bl) (n:=n) (fun l=>large_lt k l) hO hp hA hi ([],0)
  have hsucc:=fun i (hi:i < (chnS t k).length)=>ctF_step (fun l=>(largeR k l).length) (chnS t k) n bl p a hi ([],0)
  have hall:=ctF_all (fun l=>(largeR k l).length) (chnS t k) n bl p a
  have hz0:=ctF_zero (fun l=>(largeR k l).length) (chnS t k) n bl p a
  have hCh:=fun (dd:Nat)=>ChaW_tr tv t k dd
  have hCW:∀ dd:Nat,1 ≤ dd→dd ≤ t.length→chaW t k dd = (rqf (mkRat (t.getD (dd - 1) 0) (chs k dd * t.sum.toNat)),0):=fun dd h1 h2=>by
   unfold chaW
   rw [if_pos hz,if_neg (by omega),Int.toNat_natCast,Int.toNat_natCast,show ((dd:Int) - 1).toNat = dd - 1 by omega]
  have hSet:=fun i (hi:i < (setP t k t.length).length)=>setP_isSet hi
  have hmem:∀ i,i < (setP t k t.length).length→1 ≤ ((setP t k t.length).getD i []).length∧((setP t k t.length).getD i []).length ≤ t.length:=fun i hi=>by
   have hm:(setP t k t.length).getD i [] ∈ setP t k t.length:=by rw [List.getD_eq_getElem?_getD,List.getElem?_eq_getElem hi];exact List.getElem_mem hi
   obtain ⟨p1,p2,_,_⟩:=setP_mem hm
   exact ⟨p1,p2⟩
  obtain ⟨E0,E1⟩:=oneS_pow hz hk hl (d:=d) (by omega)
  obtain ⟨F0,F1⟩:=oneS_pow hz hk hl (d:=d + 1) (by omega)
  have hpF:FB p 8589934592:=(FB_le1 hp E0 (hA.p_le (Nat.succ_pos k)) E1).le (by decide)
  have hfb:=fun i (hi:i < (chnS t k).length)=>(chnS_FB hz hk hl hi).le (C:=8589934592) (by decide)
  have hfr:=fun i (hi:i < (chnS t k).length)=>by
   have:=hp.mul (chnS_fr hz hi)
   rwa [← Nat.pow_succ] at this
  have hsn:=fun i (hi:i < (setP t k t.length).length)=>stopE_snoc (k:=(k:Int)) (b:=bl) hst (hSet i hi)
  rw [← hall]
  rw [show d + 1 + n = d + (n + 1) by omega] at hrec
  clear hall z3 z4 hA hO hSet hp
  generalize setP t k t.length = S at *
  generalize ctF (fun l=>(largeR k l).length) (chnS t k) n bl p a = CF at *
  rw [hLen]
  have hnx:((n + 1:Nat):Int) - 1 = (n:Int):=by omega
  refine Tr.enter env _ Tryz.func36 (by kernel_rfl) rfl Tryz.ntmps36 rfl (by repeat (first | exact has00 | refine has01 ?_)) fun w0=>?_
  refine TC.fact (elg_onesL (g:=I) (ss:=bs) (ls:=bl) (has_velg memA) hbl) fun hbo=>?_
  repeat' first|refine bx fun c11=>?_|(refine wo ?_;first|(refine ao ?_;first|refine oa ?_)|refine oa ?_)|(refine gc ?_;first|refine cf ?_)|refine sq ?_|refine rg ?_|refine xc ?_|refine nl ?_|refine sk ?_|refine bk ?_
  refine TC.loop (ι:=CnG) (fun g=>[(17,I g.i)]) (fun g=>[oww TRt 3 uv (k + 1) (rcs (CF g.i) g.hs),ofr g.hs (CF g.i)]) (fun g=>g.i ≤ S.length∧g.hs.length = k + 1) (fun g=>S.length - g.i) ⟨0,hs⟩ [0,1,2,3,5,6,11] ⟨Nat.zero_le _,hhs⟩ ?_ (hf:=by dsimp only;rw [hz0];exact fitA)
  clear hhs
  rintro ⟨i,hs⟩ ⟨hi,hhs⟩
  dsimp only at hi hhs ⊢
  by_cases hlt:i < S.length
  rotate_left
  ·obtain rfl:i = S.length:=by omega
   repeat' first|(refine wo ?_;first|(refine ao ?_;first|refine oa ?_)|refine oa ?_|refine ln ?_)|(refine gc ?_;first|(refine ci (fun hB=>?_) (fun hB=>?_) <;> try (exfalso;omega)))|refine sq ?_|refine rg ?_|refine xc ?_|refine nl ?_|refine xe ?_|refine rt ?_
   exact r1 ⟨hs,rfl,hhs,rfl⟩
  have hg:=hget i hlt
  have hA1:=hstep i (by omega)
  have hsu:=hsucc i (by omega)
  have hf1:=hfb i (by omega)
  have hf2:=hfr i (by omega)
  have hsn1:=hsn i hlt
  obtain ⟨m1,m2⟩:=hmem i hlt
  have hs1:ss[i]? = some (ss.getD i nS):=by rw [List.getD_eq_getElem?_getD,List.getElem?_eq_getElem (by omega)];rfl
  have hH1:∀ F,velg I ss S ∈ F→Has F (vw (ss.getD i nS) (Is (S.getD i []))):=fun F h=>has_elg (g:=I) (has_velg h) (i:=i) hlt
  rw [hg] at hA1 hsu hf1 hf2
  clear hg hget hstep hsucc hfb hfr hsn hmem
  refine TC.fact (elg_one (g:=I) (ss:=ss) (ls:=S) (has_velg memA) (i:=i) hlt) fun hs1o=>?_
  dsimp only at hA1 hsu hf1 hf2
  generalize S.getD i [] = row at *
  have hCh1:=hCh row.length
  rw [hCW row.length m1 m2] at hCh1
  clear hCh hCW
  generalize mkRat (t.getD (row.length - 1) 0) (chs k row.length * t.sum.toNat) = c at *
  have hmF:FB (p * c) 8589934592:=(FB_le1 hf2 F0 (hA1.p_le (Nat.succ_pos k)) F1).le (by decide)
  have hMul:=fun lv v1 v2 v3 v4=>FMul2_tr p c lv v1 v2 v3 v4 hpF hf1
  have hRec:=fun bv' pn' pd' h1 h2=>hrec bv' pn' pd' (bs ++ [ss.getD i nS]) (bl ++ [row]) (p * c) (CF i) hs (by simp [hbl]) hsn1 (by simp;omega) (by omega) h1 h2 hf2 (by rwa [show d + (n + 1) = d + 1 + n by omega]) hhs
  rw [← hsu] at hRec
  clear hrec hA1 hf1 hf2 hsn1 hsu
  unfold FW at hCh1
  unfold FQ2 at hMul
  dsimp only at hCh1
  have hbs12:bs.length ≤ 12:=by omega
  obtain ⟨m,hm⟩ : ∃ m,m = p * c:=⟨_,rfl⟩
  simp only [← hm] at hMul hRec
  clear hm hmF
  generalize ss.getD i nS = s1 at *
  generalize hC1:CF (i + 1) = a2 at *
  generalize CF i = a1 at *
  repeat' first|(refine gca ?_;first|(refine ca hCh1 ?_;rintro _ _ ⟨cn,cd,rfl,hcn,hcd,rfl⟩)|(refine ca (hMul _ pn pd cn cd) ?_ (hp:=has1 (has_oww memA) (has1 hasA (has1 hasA (has1 hasA (has1 hasA has0)))));rintro _ _ ⟨mn,md,rfl,hmn,hmd,rfl⟩))|refine le (xs:=ss) ?_ (hj:=hs1)|refine lnm (l:=row) (g:=I) ?_ (hh:=hH1 _ memA)|refine al fun c18=>?_|refine srz ?_|refine lda ?_|refine slws (sz:=3) (xs:=rrow p (pn,pd) ++ rrow c (cn,cd)) fun g2=>?_|(refine wo ?_;first|(refine ao ?_;first|refine oa ?_)|refine oa ?_|refine ln ?_|refine ixn ?_)|(refine gc ?_;first|(refine ci (fun hB=>?_) (fun hB=>?_) <;> try (exfalso;omega)))|refine sq ?_|refine rg ?_|refine xc ?_|refine nl ?_|refine sk ?_|refine bk ?_
  rename_i c18'
  refine cutY (ι:=Value) (fun v=>v.oneCell' = true) (fun v=>[(17,I i),(0,tv),(1,I k),(2,sv),(3,bv),(5,I ((n + 1:Nat):Int)),(6,uv),(11,ptr c11),(19,I 0),(20,ptr c18),(21,I 0),(22,v)]) (fun v=>[own TLs v (bs ++ [s1]),pt c11 (rrow p (pn,pd)) TRt,pt c18 (rrow m (mn,md)) TRt,own T64 mn (Us (dg m.num.natAbs)),own T64 md (Us (dg m.den)),oww TRt 3 uv (k + 1) (rcs a1 hs),ofr hs a1,vw tv (Is t),vw sv ss,velg I ss S,vw bv bs,velg I bs bl,vw pn (Us (dg p.num.natAbs)),vw pd (Us (dg p.den))]) ?_ ?_
  ·intro nv hnv
   repeat' first|(refine gca ?_;first|(refine ca (hRec nv mn md hmn hmd) ?_ (hp:=has1 hasA (has1 hasA (has1 (has_velg memA) (has1 hasA (has1 (has_velg_sn hbl (has_velg memA) (hH1 _ memA)) (has1 hasA (has1 hasA has0)))))));rintro _ _ ⟨hs',rfl,hhs',rfl⟩))|(refine aw (m:=(n:Int)) ?_ (h:=by rw [← hnx];rfl))|refine lda ?_|(refine wo ?_;first|(refine ao ?_;first|refine aw ?_|refine oa ?_)|refine oa ?_|refine gy ?_)|(refine gc ?_;first|refine cf ?_)|refine sq ?_|refine rg ?_|refine xc ?_|refine nl ?_|refine sk ?_|refine xb ?_
   exact lp ⟨i + 1,hs'⟩ ⟨hlt,hhs'⟩ (hf:=by dsimp only;rw [hC1];exact fitA)
  ·intro b' kb
   refine rs (fun w=>Sl w sv ss) ?_ (fun w hw=>has_sl (xs:=ss) hw hasA)
   refine tka 1 ?_
   refine tka 3 ?_
   refine tka 4 ?_
   refine tk 5 (v:=.pointer (some (addrAt sv i))) (fun w h=>R_idx (E:=env) (i:=(i:Int)) rfl rfl rfl rfl h ⟨by omega,by omega⟩) ?_
   refine tk 6 (v:=s1) (fun w h=>R_load (E:=env) rfl rfl rfl (h.cell hs1)) ?_
   refine t2 0 7 ?_ ?_
   ·refine sl0 fun q0=>?_
    refine nl ?_
    refine te (fun w hw=>has_sl (xs:=ss) hw hasA) ?_
    refine t2 2 7 ?_ ?_
    ·refine ap (xs:=[]) (news:=bs) (fun o2=>?_) (h1:=hbo)
     refine nl ?_
     refine te (fun w hw=>has_sl (xs:=ss) hw hasA) ?_
     refine t1 7 ?_
     refine sli (vs:=[s1]) (fun q1=>?_) (h1:=one_cons hs1o one_nil)
     refine nl ?_
     refine te (fun w hw=>has_sl (xs:=ss) hw hasA) ?_
     refine t1 8 ?_
     refine ap (xs:=[] ++ bs) (news:=[s1]) (fun o3=>?_) (h1:=one_cons hs1o one_nil)
     refine TO.one (v:=o3) (xs:=([] ++ bs) ++ [s1]) fun ho3=>?_
     refine nl ?_
     refine te (fun w hw=>has_sl (xs:=ss) hw hasA) ?_
     refine tka 9 ?_
     refine t0 ?_
     repeat' first|refine xc ?_
     exact kb o3 ho3 _ _ (by (repeat (refine Sub.cons rfl (by first | rfl | go_num) ?_));exact Sub.nil) fitA
    ·refine sli (vs:=[s1]) (fun q1=>?_) (h1:=one_cons hs1o one_nil)
     refine nl ?_
     refine te (fun w hw=>has_sl (xs:=ss) hw hasA) ?_
     refine t1 2 ?_
     refine ap (xs:=[]) (news:=bs) (fun o2=>?_) (h1:=hbo)
     refine nl ?_
     refine te (fun w hw=>has_sl (xs:=ss) hw hasA) ?_
     refine t1 8 ?_
     refine ap (xs:=[] ++ bs) (news:=[s1]) (fun o3=>?_) (h1:=one_cons hs1o one_nil)
     refine TO.one (v:=o3) (xs:=([] ++ bs) ++ [s1]) fun ho3=>?_
     refine nl ?_
     refine te (fun w hw=>has_sl (xs:=ss) hw hasA) ?_
     refine tka 9 ?_
     refine t0 ?_
     repeat' first|refine xc ?_
     exact kb o3 ho3 _ _ (by (repeat (refine Sub.cons rfl (by first | rfl | go_num) ?_));exact Sub.nil) fitA
   ·refine sli (vs:=[s1]) (fun q1=>?_) (h1:=one_cons hs1o one_nil)
    refine nl ?_
    refine te (fun w hw=>has_sl (xs:=ss) hw hasA) ?_
    refine t1 0 ?_
    refine sl0 fun q0=>?_
    refine nl ?_
    refine te (fun w hw=>has_sl (xs:=ss) hw hasA) ?_
    refine t1 2 ?_
    refine ap (xs:=[]) (news:=bs) (fun o2=>?_) (h1:=hbo)
    refine nl ?_
    refine te (fun w hw=>has_sl (xs:=ss) hw hasA) ?_
    refine t1 8 ?_
    refine ap (xs:=[] ++ bs) (news:=[s1]) (fun o3=>?_) (h1:=one_cons hs1o one_nil)
    refine TO.one (v:=o3) (xs:=([] ++ bs) ++ [s1]) fun ho3=>?_
    refine nl ?_
    refine te (fun w hw=>has_sl (xs:=ss) hw hasA) ?_
    refine tka 9 ?_
    refine t0 ?_
    repeat' first|refine xc ?_
    exact kb o3 ho3 _ _ (by (repeat (refine Sub.cons rfl (by first | rfl | go_num) ?_));exact Sub.nil) fitA
set_option maxHeartbeats 2000000 in
theorem RippleTrue_tr (tv:Value) (tbl:List Int) (kk nn:Int):Tr Tryz.prog 7 [tv,I kk,I nn] [vw tv (Is tbl)] [] fun v D=>v = .bool true∧D = []:=by
 have hpk:=pickM_in (x:=kk) (m:=3) (by decide)
 have hpn:=pickM_in (x:=nn) (m:=4) (by decide)
 obtain ⟨k,hk⟩ : ∃ k:Nat,1 + pick kk 3 = k:=⟨(1 + pick kk 3).toNat,by omega⟩
 obtain ⟨n,hn⟩ : ∃ n:Nat,pick nn 4 = n:=⟨(pick nn 4).toNat,by omega⟩
 have hT:=small25_tr tv tbl k (by omega)
 have hlen:=smlT_len 4 tbl k
 generalize smlT 4 tbl k = t at *
 by_cases hz:solE t k = 0
 rotate_left
 ·rw [decide_eq_false hz] at hT
  refine Tr.enter env _ Tryz.func7 (by kernel_rfl) rfl Tryz.ntmps7 rfl (by repeat (first | exact has00 | refine has01 ?_)) fun w0=>?_
  repeat' first|(refine gca ?_;first|(refine ca RippleKnown_tr ?_;rintro _ _ ⟨rfl,rfl⟩)|(refine ca (Pick_tr kk 3 (by decide)) ?_;rintro _ _ ⟨rfl,rfl⟩)|(refine ca (Pick_tr nn 4 (by decide)) ?_;rintro _ _ ⟨rfl,rfl⟩;rw [hn])|(refine ca hT ?_;rintro _ _ ⟨o,rfl,ho,rfl⟩))|(refine aw (m:=1 + pick kk 3) ?_;rw [hk])|(refine wo ?_;first|refine oa ?_)|(refine gc ?_;first|refine ct ?_)|refine sq ?_|refine rg ?_|refine xc ?_|refine nl ?_|refine rt ?_
  exact r1 ⟨rfl,rfl⟩
 rw [decide_eq_true hz] at hT
 have hSb:(setP t k t.length).length ≤ 4096:=by
  have h1:=setP_le t k t.length
  have h2:t.length * 2 ^ k ≤ 3 * 2 ^ 3:=Nat.mul_le_mul (by omega) (Nat.pow_le_pow_right (by decide) (by omega))
  omega
 have hS:=fun o=>MSets_tr o t k
 rw [show setsW t k = (setP t k t.length,0) by unfold setsW;rw [if_pos hz,Int.toNat_natCast,if_neg (by omega)]] at hS
 have hSt:=fun o ho=>Stuck_tr o ho t k n hz (by omega) (by omega) (by omega)
 have hA0:=FAdd0_tr
 have hP:=FPair_tr 1 1 (by decide) (by decide) (by decide)
 rw [mk_one 1 (by decide)] at hP
 obtain ⟨E0,_⟩:=oneS_pow hz (show k ≤ 40 by omega) (show t.length ≤ 12 by omega) (d:=n) (by omega)
 have hCt:=fun o sv uv ss hss pn pd g1 g2 hs hhs=>counts_tr o sv uv t k ss hz (by omega) (by omega) hss hSb n 0 nS pn pd [] [] 1 (List.replicate (k + 1) 0) hs rfl (by unfold stopE;rw [if_neg (by omega),if_neg (by simp)]) (by simp;omega) (by omega) g1 g2 (by rw [Nat.pow_zero];exact FrQ.nat 1) (by rw [Nat.zero_add];exact Acc.init E0) hhs
 rw [cnt_true hz n] at hCt
 have hll:=stL_len t k n
 dsimp only at hS
 unfold FQ2 at hA0 hP
 clear hz E0
 generalize setP t k t.length = S at *
 generalize stL t k n = L at *
 obtain ⟨N,hN⟩ : ∃ N,N = k + 1:=⟨_,rfl⟩
 have hN2:(k:Int) + 1 = (N:Int):=by omega
 rw [← hN] at hSt hCt hll
 refine Tr.enter env _ Tryz.func7 (by kernel_rfl) rfl Tryz.ntmps7 rfl (by repeat (first | exact has00 | refine has01 ?_)) fun w0=>?_
 repeat' first|(refine gca ?_;first|(refine ca RippleKnown_tr ?_;rintro _ _ ⟨rfl,rfl⟩)|(refine ca (Pick_tr kk 3 (by decide)) ?_;rintro _ _ ⟨rfl,rfl⟩)|(refine ca (Pick_tr nn 4 (by decide)) ?_;rintro _ _ ⟨rfl,rfl⟩;rw [hn])|(refine ca hT ?_;rintro _ _ ⟨o,rfl,ho,rfl⟩)|(refine ca (hS o) ?_;rintro _ _ ⟨sv,ss,rfl,hsv,hss,rfl⟩)|(refine ca (hSt o ho) ?_;rintro _ _ ⟨lv,lh,rfl,hlv,hlh,rfl⟩))|(refine aw (m:=1 + pick kk 3) ?_;rw [hk])|(refine aw (m:=(k:Int) + 1) ?_;rw [hN2])|refine lnw (v:=lv) (N:=N) ?_ (hm:=has_oww memA)|(refine mkw (sz:=3) (c:=(N:Int)) (fun v hv=>?_);rw [Int.toNat_natCast,zrs_eq])|(refine wo ?_;first|(refine ao ?_;first|refine oa ?_)|refine oa ?_|refine gy ?_)|(refine gc ?_;first|refine cf ?_|(refine cn (fun hB=>?_) (fun hB=>?_) <;> try (exfalso;omega)))|refine sq ?_|refine rg ?_|refine xc ?_|refine nl ?_|refine sk ?_|refine bk ?_
 refine TC.im (owl_nil (e:=T64) (g:=wU) _) ?_
 refine TC.loop (ι:=CnG) (fun g=>[(15,I g.i)]) (fun g=>[oww TRt 3 v N (rcs (List.replicate g.i 0) g.hs ++ zrs (N - g.i)),ofr g.hs (List.replicate g.i 0)]) (fun g=>g.i ≤ N∧g.hs.length = g.i) (fun g=>N - g.i) ⟨0,[]⟩ [1,2,7,8,10,12,14] ⟨Nat.zero_le _,rfl⟩ ?_ (hf:=by dsimp only;rw [show rcs (List.replicate 0 (0:Rat)) ([]:List (Value × Value)) ++ zrs (N - 0) = zrs N from rfl];exact fitA)
 rintro ⟨i,hq⟩ ⟨hi,hl⟩
 dsimp only at hi hl ⊢
 by_cases hlt:i < N
 ·obtain ⟨m,hm⟩ : ∃ m,N - i = m + 1:=⟨N - i - 1,by omega⟩
  have hfill:=fun vn vd=>rcs_fill (qs:=List.replicate i (0:Rat)) (hs:=hq) (by simpa using hl) m 0 (vn,vd)
  rw [List.length_replicate] at hfill
  rw [hm]
  clear hS hSt hCt hP hT
  repeat' first|(refine gca ?_;first|(refine ca hA0 ?_;rintro _ _ ⟨vn,vd,rfl,hvn,hvd,rfl⟩))|refine ixws (v:=v) (i:=(i:Int)) (N:=N) (xs:=rcs (List.replicate i 0) hq ++ zrs (m + 1)) ?_ (hm:=has_oww memA)|refine sow (sz:=3) (m:=3 * i) (N:=N) (xs:=rcs (List.replicate i 0) hq ++ zrs (m + 1)) (vs:=[.bool (decide ((0:Rat).num < 0)),vn,vd]) (by omega) ?_ (h1:=one_cons rfl (one_cons hvn (one_cons hvd one_nil)))|(refine wo ?_;first|(refine ao ?_;first|refine aw ?_|refine oa ?_)|refine oa ?_)|(refine gc ?_;first|(refine ci (fun hB=>?_) (fun hB=>?_) <;> try (exfalso;omega)))|refine sq ?_|refine rg ?_|refine xc ?_|refine nl ?_|refine sk ?_|refine bk ?_|refine xb ?_
  refine TX.im (ofr_snoc (qs:=List.replicate i 0) (by simpa using hl) 0 vn vd fitA) ?_
  exact lp ⟨i + 1,hq ++ [(vn,vd)]⟩ ⟨hlt,by simp [hl]⟩ (hf:=by dsimp only;rw [show N - (i + 1) = m by omega,List.replicate_succ',← hfill vn vd];exact fitA)
 obtain rfl:i = N:=by omega
 rw [Nat.sub_self,zrs_zero,List.append_nil]
 clear hA0 hS hSt hT
 repeat' first|(refine gca ?_;first|(refine ca hP ?_;rintro _ _ ⟨p1,p2,rfl,hp1,hp2,rfl⟩)|(refine ca (hCt o sv v ss hss p1 p2 hp1 hp2 hq hl) ?_ (hp:=has1 hasA (has1 hasA (has1 (has_owl hss memA) (has1 hasA (has1 has_velg_nil (has1 hasA (has1 hasA has0)))))));rintro _ _ ⟨hs2,rfl,hl2,rfl⟩))|refine al fun c=>?_|refine srz ?_|refine lda ?_|(refine wo ?_;first|(refine ao ?_;first|refine oa ?_)|refine oa ?_)|(refine gc ?_;first|refine cf ?_|(refine ci (fun hB=>?_) (fun hB=>?_) <;> try (exfalso;omega)))|refine sq ?_|refine rg ?_|refine xc ?_|refine nl ?_|refine sk ?_|refine bk ?_|refine xe ?_
 refine TC.loop (ι:=Nat) (fun a=>[(18,I a)]) (fun _=>[]) (fun a=>a ≤ i) (fun a=>i - a) 0 [1,7,12,14] (Nat.zero_le _) ?_
 clear hCt hP hi hlt
 rintro a ha
 by_cases hta:a < i
 rotate_left
 ·obtain rfl:a = i:=by omega
  repeat' first|(refine wo ?_;first|(refine ao ?_;first|refine oa ?_)|refine oa ?_)|(refine gc ?_;first|(refine ci (fun hB=>?_) (fun hB=>?_) <;> try (exfalso;omega)))|refine sq ?_|refine rg ?_|refine xc ?_|refine nl ?_|refine xe ?_|refine rt ?_
  exact r1 ⟨rfl,rfl⟩
 have hr1:=rcs_row (qs:=L) (hs:=hs2) (i:=a) (by omega) (by omega)
 have hr2:=rcs_row (qs:=L) (hs:=lh) (i:=a) (by omega) (by omega)
 have hf1:∀ F,ofr hs2 L ∈ F→Has F (vw (hs2.getD a nS2).1 (Us (dg (L.getD a 0).num.natAbs)))∧Has F (vw (hs2.getD a nS2).2 (Us (dg (L.getD a 0).den))):=fun F h=>has_fr (has_ofr (by omega) h) (by omega) (by omega)
 have hf2:∀ F,ofr lh L ∈ F→Has F (vw (lh.getD a nS2).1 (Us (dg (L.getD a 0).num.natAbs)))∧Has F (vw (lh.getD a nS2).2 (Us (dg (L.getD a 0).den))):=fun F h=>has_fr (has_ofr (by omega) h) (by omega) (by omega)
 have hSR:=fun n1 d1 n2 d2=>SameRatioT_tr (rqf (L.getD a 0)) n1 d1 n2 d2
 unfold rqf at hSR
 dsimp only at hSR
 generalize L.getD a 0 = q at *
 generalize hs2.getD a nS2 = x1 at *
 generalize lh.getD a nS2 = x2 at *
 repeat' first|refine qixws (v:=v) (i:=(a:Int)) (N:=i) (xs:=rcs L hs2) ?_ (hm:=has_oww memA)|refine qixws (v:=lv) (i:=(a:Int)) (N:=i) (xs:=rcs L lh) ?_ (hm:=has_oww memA)|refine qldaw (v:=v) (N:=i) (xs:=rcs L hs2) (m:=3 * a) hr1 ?_ (hm:=has_oww memA)|refine qldaw (v:=lv) (N:=i) (xs:=rcs L lh) (m:=3 * a) hr2 ?_ (hm:=has_oww memA)|refine qca (hSR x1.1 x1.2 x2.1 x2.2) (v:=.bool true) (fun _ _ h=>h) ?_ (hp:=has1 (hf1 _ memA).1 (has1 (hf1 _ memA).2 (has1 (hf2 _ memA).1 (has1 (hf2 _ memA).2 has0))))|(refine wo ?_;first|(refine ao ?_;first|refine aw ?_|refine oa ?_)|refine oa ?_)|(refine gc ?_;first|refine cf ?_|(refine ci (fun hB=>?_) (fun hB=>?_) <;> try (exfalso;omega)))|refine sq ?_|refine rg ?_|refine xc ?_|refine nl ?_|refine sk ?_|refine bk ?_|refine xb ?_|refine rq ?_|refine nq ?_|(refine wq ?_;first|refine qa ?_)
 exact lp (a + 1) hta
end Go.Art
