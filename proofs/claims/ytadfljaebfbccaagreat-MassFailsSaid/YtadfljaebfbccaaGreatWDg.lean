/- Texts put together: StopH StopI StopJ StopK StopN Ve Vf Mb Md Za Zb Zc Zd Ze Zf Zh Va. Conditions: none. -/
import Derived.Test.YtadfljaebfbccaaGreatWDf
set_option linter.unusedSimpArgs false
set_option linter.unusedVariables false
set_option maxRecDepth 4000
namespace Go.Art
open Go Go.Proofs Go.RowKit
attribute [local irreducible] Fit pt own ro vw mpc lpt vels rels mow lrc dfr
structure UG where
 G:Int→Option Value
 many:List Int
 q:List Int
 qv:Value
structure UF where
 i:Nat
 G:Int→Option Value
 g:Int→List Int
 many:List Int
abbrev TQ':TypeId:=192
abbrev TM':TypeId:=164
set_option maxHeartbeats 2000000 in
theorem unknown_tr (k:Int) (s:Value) (hs:List Value) (ls:List (List Int)) (hE:stopE k ls = 0) (hn:ls.length ≤ 4096) :
  Tr Tryz.prog 158 [I k,s] [vw s hs,vels hs ls] [] fun v D=>∃ b G g,v = mp b∧D = [mow 3 b G g none]∧(∀ x,left G x = true ↔ (0 ≤ x∧x < k)∧¬ Kn ls x):=by
 obtain ⟨hk1,hk2,hsets⟩:=stopE_zero hE
 refine Tr.enter env _ Tryz.func158 (by kernel_rfl) rfl Tryz.ntmps158 rfl (by repeat (first | exact has00 | refine has01 ?_)) fun w0=>?_
 refine TC.els (hs:=hs) (ls:=ls) (fun hl=>?_)
 refine TC.one (v:=s) (xs:=hs) fun hsv=>?_
 repeat' first|refine bx1 fun bs=>?_|refine mmo 3 (fun _=>[]) fun b=>?_|refine al fun bl=>?_|(refine wo ?_;first|refine oa ?_|refine sr ?_)|refine sq ?_|refine rg ?_|refine xc ?_|refine nl ?_|refine bk ?_
 refine TC.loop (ι:=Nat × (Int→Option Value)) (fun i=>[(23,I i.1)]) (fun i=>[mow 3 b i.2 (fun _=>[]) none]) (fun i=>(i.1:Int) ≤ k∧∀ x,i.2 x = if 0 ≤ x∧x < i.1 then some nS else none) (fun i=>(k - i.1).toNat) (0,fun _=>none) [3,4,5,22] ⟨by simp;omega,fun x=>by rw [if_neg (by omega)]⟩ ?_
 ·rintro ⟨i,G⟩ ⟨h1,h2⟩
  dsimp only at h1 h2 ⊢
  by_cases hi:(i:Int) < k
  ·repeat' first|(refine wo ?_;first|(refine ao ?_;first|refine oa ?_)|refine oa ?_|refine ld ?_)|(refine gc ?_;first|(refine ci (fun hB=>?_) (fun hB=>?_) <;> try (exfalso;omega)))|refine sq ?_|refine rg ?_|refine xc ?_|refine nl ?_|refine sk ?_|refine bk ?_
   refine TO.im (own_nil 3 _) ?_
   refine mou (v:=nS) (l:=[]) (G:=G) (k:=(i:Int)) ?_ (.inr ⟨rfl,by rw [h2,if_neg (by omega)]⟩)
   rw [show setK (fun _:Int=>([]:List Int)) (i:Int) [] = fun _=>[] from by funext x;unfold setK;split <;> rfl]
   repeat' first|(refine wo ?_;first|(refine ao ?_;first|refine aw ?_)|refine oa ?_)|refine rg ?_|refine xc ?_|refine nl ?_|refine xb ?_
   refine lp (i + 1,setK G i (some nS)) ⟨by dsimp only;omega,fun x=>?_⟩
   dsimp only
   by_cases e:x = i
   ·rw [e,setK_eq,if_pos (by omega)]
   ·rw [setK_ne _ _ e,h2]
    by_cases e2:0 ≤ x∧x < (i:Int)
    ·rw [if_pos e2,if_pos (by omega)]
    ·rw [if_neg e2,if_neg (by omega)]
  ·have hik:(i:Int) = k:=by omega
   rw [hik] at h2
   have hl0:∀ x,left G x = true ↔ 0 ≤ x∧x < k:=fun x=>by
    unfold left;rw [h2]
    by_cases e:0 ≤ x∧x < k
    ·rw [if_pos e];simp [e]
    ·rw [if_neg e];simp [e]
   clear h2
   repeat' first|refine mki fun mv0=>?_|(refine wo ?_;first|(refine ao ?_;first|refine oa ?_)|refine ld ?_|refine ln ?_)|(refine gc ?_;first|(refine ci (fun hB=>?_) (fun hB=>?_) <;> try (exfalso;omega)))|refine sq ?_|refine rg ?_|refine xc ?_|refine nl ?_|refine xe ?_
   refine al fun bm=>?_
   refine TO.one (v:=mv0) (xs:=Is (List.replicate ((hs.length:Nat):Int).toNat 0)) fun hmv=>?_
   repeat' first|(refine wo ?_;first|refine sr ?_)|refine sq ?_|refine rg ?_|refine xc ?_|refine nl ?_
   refine al fun bq=>?_
   repeat' first|(refine wo ?_;first|refine oa ?_|refine ld ?_|refine ln ?_)|refine sq ?_|refine rg ?_|refine xc ?_|refine nl ?_|refine bk ?_
   refine TC.loop (ι:=UF) (fun u=>[(36,I u.i)]) (fun u=>[mow 3 b u.G u.g none,own 3 mv0 (Is u.many)])
    (fun u=>u.i ≤ ls.length∧(∀ x,left u.G x = true ↔ 0 ≤ x∧x < k)∧(∀ x,left u.G x = true→u.g x = idx ls x u.i)∧u.many.length = ls.length∧∀ j,j < u.i→u.many.getD j 0 = (ls.getD j []).length)
    (fun u=>ls.length - u.i) ⟨0,G,fun _=>[],List.replicate ((hs.length:Nat):Int).toNat 0⟩ [0,3,5,7,8,9,34,35] ⟨by simp,hl0,fun x _=>rfl,by simp [hl],fun j h=>by simp at h⟩ ?_
   ·clear hl0 h1 hi hik
    rintro ⟨i,G,g,many⟩ ⟨h1,h2,h3,h4,h5⟩
    dsimp only at h1 h2 h3 h4 h5 ⊢
    by_cases hi:i < ls.length
    ·have hset:=hsets _ (getD_mem hi)
     have hnd:=isSet_nodup hset
     have hin:=(isSet_iff.1 hset).2.2
     have hlk:=isSet_len hset
     repeat' first|(refine wo ?_;first|(refine ao ?_;first|refine oa ?_)|refine oa ?_|refine ld ?_|refine lnm ?_|refine ixmn ?_|refine lv ?_|refine ixn ?_|refine soi ?_)|(refine gc ?_;first|(refine ci (fun hB=>?_) (fun hB=>?_) <;> try (exfalso;omega)))|refine sq ?_|refine rg ?_|refine xc ?_|refine nl ?_|refine sk ?_|refine bk ?_
     generalize hL:ls.getD i [] = L at *
     refine TC.loop (ι:=Nat × (Int→Option Value) × (Int→List Int)) (fun u=>[(48,I u.1)]) (fun u=>[mow 3 b u.2.1 u.2.2 none])
      (fun u=>u.1 ≤ L.length∧(∀ x,left u.2.1 x = true ↔ 0 ≤ x∧x < k)∧∀ x,left u.2.1 x = true→u.2.2 x = idx ls x i ++ if x ∈ L.take u.1 then [(i:Int)] else [])
      (fun u=>L.length - u.1) (0,G,g) [0,3,5,7,8,9,10,34,35,36,46,47] ⟨by simp,h2,fun x hx=>(h3 x hx).trans (by simp)⟩ ?_
     ·clear h2 h3
      rintro ⟨m,G,g⟩ ⟨h6,h2,h3⟩
      dsimp only at h6 h2 h3 ⊢
      subst hL
      by_cases hm:m < (ls.getD i []).length
      ·have hx0:=hin _ (mem_getD.2 ⟨m,hm,rfl⟩)
       have hmt:=not_mem_take (isSet_sorted hset).2 hm
       have hts:=take_succ' hm 0
       generalize hx:(ls.getD i []).getD m 0 = x at *
       have hgx:=h3 x ((h2 x).2 hx0)
       rw [if_neg hmt,List.append_nil] at hgx
       obtain ⟨v,hv⟩ : ∃ v,G x = some v:=Option.isSome_iff_exists.1 ((h2 x).2 hx0)
       repeat' first|refine lie hx ?_|(refine wo ?_;first|(refine ao ?_;first|refine oa ?_)|refine oa ?_|refine ixmn ?_)|(refine gc ?_;first|(refine ci (fun hB=>?_) (fun hB=>?_) <;> try (exfalso;omega)))|refine sq ?_|refine rg ?_|refine xc ?_|refine nl ?_|refine sk ?_|refine bk ?_
       refine TC.im (Im.trans (Tk.here) (mow_out _ b G g hv _)) ?_
       have hgl:=idx_len ls x i
       refine rs (fun w=>w.heap[bl]? = some (.cells #[mp b] TM' (0,0))) ?_ (fun w hw=>pt_at (by simp) hw)
       refine tkl 0 (cs:=[mp b]) (fun w h=>h) ?_
       refine tka 1 ?_
       refine tkl 2 (cs:=[mp b]) (fun w h=>h) ?_
       refine tka 3 ?_
       refine tka 6 ?_
       refine t2 4 7 ?_ ?_
       refine mo ?_ (ones_some hv)
       repeat' first|refine nl ?_
       refine te (fun w hw=>pt_at (by simp) hw) ?_
       refine tk 5 (fun w h=>R_field (E:=env) (cs:=[v]) rfl rfl rfl rfl rfl rfl) ?_
       refine t1 7 ?_
       refine slii [(i:Int)] fun v1=>?_
       repeat' first|refine nl ?_
       refine te (fun w hw=>pt_at (by simp) hw) ?_
       refine t1 8 ?_
       rotate_left
       refine slii [(i:Int)] fun v1=>?_
       repeat' first|refine nl ?_
       refine te (fun w hw=>pt_at (by simp) hw) ?_
       refine t1 4 ?_
       refine mo ?_ (ones_some hv)
       repeat' first|refine nl ?_
       refine te (fun w hw=>pt_at (by simp) hw) ?_
       refine tk 5 (fun w h=>R_field (E:=env) (cs:=[v]) rfl rfl rfl rfl rfl rfl) ?_
       refine t1 8 ?_
       all_goals
        refine api (v:=v) (l:=g x) (news:=[(i:Int)]) (hl:=by rw [hgx];simp only [List.length_cons,List.length_nil];omega) fun v2=>?_
        refine TO.one (v:=v2) (xs:=Is (g x ++ [(i:Int)])) fun hv2=>?_
        repeat' first|refine nl ?_
        refine te (fun w hw=>pt_at (by simp) hw) ?_
        refine tk 9 (fun w h=>R_buildC (E:=env) (vs:=[(0,v2)]) (cs:=[v2]) (by simp [hv2]) rfl rfl rfl rfl rfl) ?_
        refine t1 10 ?_
        refine mou (v:=v2) (l:=g x ++ [(i:Int)]) (G:=G) (k:=x) ?_ (.inl rfl)
        repeat' first|refine nl ?_
        refine te (fun w hw=>pt_at (by simp) hw) ?_
        refine t0 ?_
        repeat' first|(refine wo ?_;first|(refine ao ?_;first|refine aw ?_)|refine oa ?_)|refine rg ?_|refine xc ?_|refine nl ?_|refine xb ?_
        refine lp (m + 1,setK G x (some v2),setK g x (g x ++ [(i:Int)])) ⟨by dsimp only;omega,fun y=>?_,fun y hy=>?_⟩
        ·dsimp only;rw [left_set G x v2 ((h2 x).2 hx0)];exact h2 y
        ·dsimp only at hy ⊢
         rw [left_set G x v2 ((h2 x).2 hx0)] at hy
         rw [hts]
         by_cases e:y = x
         ·rw [e,setK_eq,hgx,if_pos (by simp)]
         ·rw [setK_ne _ _ e,h3 y hy]
          have:(y ∈ (ls.getD i []).take m ++ [x]) ↔ y ∈ (ls.getD i []).take m:=by simp [e]
          simp only [this]
      ·obtain rfl:m = (ls.getD i []).length:=by omega
       rw [List.take_length] at h3
       repeat' first|(refine wo ?_;first|(refine ao ?_;first|refine aw ?_|refine oa ?_)|refine oa ?_)|(refine gc ?_;first|(refine ci (fun hB=>?_) (fun hB=>?_) <;> try (exfalso;omega)))|refine sq ?_|refine rg ?_|refine xc ?_|refine nl ?_|refine xe ?_|refine xb ?_
       refine lp ⟨i + 1,G,g,many.set i (ls.getD i []).length⟩ ⟨by dsimp only;omega,h2,fun y hy=>?_,by simp [h4],fun j hj=>?_⟩
       ·dsimp only;rw [h3 y hy,idx_succ]
       ·dsimp only at hj ⊢
        rw [getD_set _ _ _ _ (by omega)]
        by_cases e:i = j
        ·rw [if_pos e,e]
        ·rw [if_neg e];exact h5 j (by omega)
    ·obtain rfl:i = ls.length:=by omega
     have hcl:∀ j,j < ls.length→cnt (left G) (ls.getD j []) = (ls.getD j []).length:=fun j hj=>by
      unfold cnt
      rw [List.filter_eq_self.2 fun y hy=>(h2 y).2 ((isSet_iff.1 (hsets _ (getD_mem hj))).2.2 y hy)]
     have hU:UInv k ls G g many []:=by
      refine ⟨fun x hx=>(h2 x).1 hx,h3,fun x h0 hk hx=>?_,h4,by simp,?_⟩
      ·rw [(h2 x).2 ⟨h0,hk⟩] at hx;cases hx
      ·have:cnt (left G) (belowI k) ≤ k.toNat:=by unfold cnt;rw [← belowI_len k];exact List.length_filter_le _ _
       have:=Nat.mul_le_mul_right (ls.length + 1) this
       rw [Nat.add_mul];simp only [List.length_nil];omega
     have hsz:(k.toNat + 1) * (ls.length + 1) ≤ 65537 * 4097:=Nat.mul_le_mul (by omega) (by omega)
     have hcm:∀ j,j < ls.length→many.getD j 0 = cnt (left G) (ls.getD j []):=fun j hj=>by rw [h5 j hj,hcl j hj]
     have hc0:cnt (left G) (belowI k) * (ls.length + 1) ≤ k.toNat * (ls.length + 1):=Nat.mul_le_mul_right _ (by unfold cnt;rw [← belowI_len k];exact List.length_filter_le _ _)
     rw [Nat.add_mul,Nat.one_mul] at hsz
     clear hcl h5
     refine TC.im (own_nil 3 _) ?_
     repeat' first|(refine wo ?_;first|(refine ao ?_;first|refine oa ?_)|refine oa ?_|refine ld ?_|refine ln ?_)|(refine gc ?_;first|(refine ci (fun hB=>?_) (fun hB=>?_) <;> try (exfalso;omega)))|refine sq ?_|refine rg ?_|refine xc ?_|refine nl ?_|refine bk ?_|refine xe ?_
     refine TC.loop (ι:=Nat × List Int × Value) (fun u=>[(66,I u.1)]) (fun u=>[pt bq [u.2.2] TQ',own 3 u.2.2 (Is u.2.1)])
      (fun u=>u.1 ≤ ls.length∧UInv k ls G g many u.2.1∧(∀ j,j < u.1→Fine1 ls G many u.2.1 j)∧u.2.1.length + cnt (left G) (belowI k) * (ls.length + 1) + (ls.length - u.1) + 1 ≤ (k.toNat + 1) * (ls.length + 1))
      (fun u=>ls.length - u.1) (0,[],nS) [3,5,7,8,9,65] ⟨by simp,hU,fun j h=>by simp at h,by rw [Nat.add_mul];simp only [List.length_nil];omega⟩ ?_
     clear hU
     rintro ⟨i,q,qv⟩ ⟨h6,hU,hF,hB⟩
     dsimp only at h6 hU hF hB ⊢
     by_cases hi:i < ls.length
     ·have hlk:=isSet_len (hsets _ (getD_mem hi))
      obtain ⟨l1,l2,l3,l4⟩:=lone_inv (B:=ls.length - i) hU hsets hi (hcm i hi) (by omega)
      have hq2:q.length + (ls.getD i []).length ≤ 1099511627776:=by rw [Nat.add_mul,Nat.one_mul] at hB;omega
      repeat' first|(refine cav (vs:=[I i]) (cap:=#[ptr bm,ptr bs,ptr bl,ptr bq]) (lone_tr i bm bs bl bq b mv0 s qv many q hs ls G g hi h4 hq2) ?_;rintro _ _ ⟨rfl,qw,rfl⟩)|(refine wo ?_;first|(refine ao ?_;first|refine aw ?_|refine oa ?_)|refine oa ?_)|(refine gc ?_;first|(refine ci (fun hB=>?_) (fun hB=>?_) <;> try (exfalso;omega)))|refine sq ?_|refine rg ?_|refine xc ?_|refine nl ?_|refine sk ?_|refine bk ?_|refine xb ?_
      refine lp (i + 1,q ++ loneL many G ls i,qw) ⟨by dsimp only;omega,l1,fun j hj=>?_,by dsimp only;omega⟩
      by_cases e:j = i
      ·rw [e];exact l2
      ·have:=hF j (by dsimp only at hj;omega)
       exact ⟨this.1,fun hc y hy hl=>l3 y (this.2 hc y hy hl)⟩
     ·obtain rfl:i = ls.length:=by omega
      clear hB hcm h2 h3 hc0
      repeat' first|(refine wo ?_;first|(refine ao ?_;first|refine oa ?_))|(refine gc ?_;first|(refine ci (fun hB=>?_) (fun hB=>?_) <;> try (exfalso;omega)))|refine sq ?_|refine rg ?_|refine xc ?_|refine nl ?_|refine bk ?_|refine xe ?_
      refine TC.loop (ι:=UG) (fun _=>[]) (fun u=>[mow 3 b u.G g none,own 3 mv0 (Is u.many),pt bq [u.qv] TQ',own 3 u.qv (Is u.q)])
       (fun u=>UInv k ls u.G g u.many u.q∧∀ j,j < ls.length→Fine1 ls u.G u.many u.q j) (fun u=>cnt (left u.G) (belowI k) * (ls.length + 1) + u.q.length) ⟨G,many,q,qv⟩ [3,5,7,8,9] ⟨hU,hF⟩ ?_
      clear hU hF h4 h6 h1
      rintro ⟨G,many,q,qv⟩ ⟨hU,hF⟩
      dsimp only at hU hF ⊢
      cases q with
      | nil=>
       repeat' first|(refine wo ?_;first|(refine ao ?_;first|refine oa ?_)|refine oa ?_|refine ld ?_|refine lnm ?_)|(refine gc ?_;first|refine cf ?_)|refine sq ?_|refine rg ?_|refine xc ?_|refine nl ?_|refine xe ?_|refine rt ?_
       refine r1 ⟨b,G,g,rfl,rfl,fun x=>?_⟩
       constructor
       ·intro hx;have hd:=hU.dom x hx;exact ⟨hd,(hU.end hsets hF x hd.1 hd.2).1 hx⟩
       ·rintro ⟨hd,hx⟩;exact (hU.end hsets hF x hd.1 hd.2).2 hx
      | cons x r=>
       have hlen:0 < (x :: r).length:=by simp
       refine TC.fact (mow_one (T:=3) (b:=b) (G:=G) (f:=g) (o:=none) (by simp)) fun hGo=>?_
       repeat' first|(refine gca ?_;first|(refine ca (next_tr bq qv x r) ?_;rintro _ _ ⟨rfl,qw,rfl⟩))|(refine wo ?_;first|(refine ao ?_;first|refine oa ?_)|refine oa ?_|refine ld ?_|refine lnm ?_)|(refine gc ?_;first|(refine ci (fun hB=>?_) (fun hB=>?_) <;> try (exfalso;omega)))|refine sq ?_|refine rg ?_|refine xc ?_|refine nl ?_|refine sk ?_|refine bk ?_
       cases hG:G x with
       | none=>
        have hlx:left G x = false:=by unfold left;rw [hG];rfl
        have hG1:=ones_none hG
        repeat' first|refine moN ?_ hG1|refine al fun bw=>?_|refine sra ?_|(refine wo ?_;first|refine oa ?_)|(refine gc ?_;first|refine ct ?_)|refine sq ?_|refine rg ?_|refine xc ?_|refine nl ?_|refine xe ?_
        refine lp ⟨G,many,r,qw⟩ ⟨⟨hU.dom,hU.sets,hU.gone,hU.len,fun y hy=>hU.que y (by simp [hy]),?_⟩,fun j hj=>⟨(hF j hj).1,fun hc y hy hly=>?_⟩⟩ (hlt:=by dsimp only;simp only [List.length_cons];omega)
        ·have:=hU.size;dsimp only at this ⊢;simp only [List.length_cons] at this;omega
        ·have h1:=(hF j hj).2 hc y hy hly
         rcases List.mem_cons.1 h1 with rfl | h1
         ·rw [hlx] at hly;cases hly
         ·exact h1
       | some v=>
        have hlx:left G x = true:=by unfold left;rw [hG];rfl
        have hG1:=ones_some hG
        have hvo:=hGo _ _ nofun hG
        have hV:=VInv.start hU hsets hF hlx
        have hgx:=hU.sets x hlx
        repeat' first|refine moS ?_ hG1|refine al fun bw=>?_|refine sra ?_|(refine wo ?_;first|refine oa ?_|refine ld ?_)|(refine gc ?_;first|refine cf ?_)|refine sq ?_|refine rg ?_|refine xc ?_|refine nl ?_|refine sk ?_
        refine TO.im (Im.trans tkA (mow_out _ b G g hG _)) ?_
        refine mod ?_
        rw [hgx]
        repeat' first|(refine wo ?_;first|refine oa ?_|refine ld ?_|refine lnm ?_)|refine sq ?_|refine rg ?_|refine xc ?_|refine nl ?_|refine bk ?_
        refine TC.loop (ι:=Nat × List Int × List Int × Value) (fun u=>[(90,I u.1)]) (fun u=>[own 3 mv0 (Is u.2.1),pt bq [u.2.2.2] TQ',own 3 u.2.2.2 (Is u.2.2.1)])
         (fun u=>u.1 ≤ (idx ls x ls.length).length∧VInv k ls (setK G x none) g x (idx ls x ls.length) u.2.1 u.2.2.1 r u.1) (fun u=>(idx ls x ls.length).length - u.1) (0,many,r,qw) [3,5,7,8,9,88,89] ⟨Nat.zero_le _,hV⟩ ?_
        clear hV
        rintro ⟨j,many,q,qv⟩ ⟨h6,hV⟩
        dsimp only at h6 hV ⊢
        by_cases hj:j < (idx ls x ls.length).length
        ·obtain ⟨i,he,hil,hxi⟩:=mem_idx.1 (mem_getD.2 ⟨j,hj,rfl⟩)
         obtain ⟨-,hV'⟩:=hV.step hsets hj he
         have hlk:=isSet_len (hsets _ (getD_mem hil))
         have hml:=hV.inv.len
         have hwl:=idx_len ls x ls.length
         have hmb:=hV.many i hil
         have hcl:cnt (left (setK G x none)) (ls.getD i []) ≤ (ls.getD i []).length:=List.length_filter_le _ _
         have hmb2:0 ≤ many.getD i 0∧many.getD i 0 ≤ 70000:=by split at hmb <;> omega
         have hq2:q.length + (ls.getD i []).length ≤ 1099511627776:=by have:=hV.bud;rw [Nat.add_mul,Nat.one_mul] at this;omega
         clear hmb hcl
         repeat' first|refine lie he ?_|(refine cav (vs:=[I i]) (cap:=#[ptr bm,ptr bs,ptr bl,ptr bq]) (lone_tr i bm bs bl bq b mv0 s qv (many.set i (many.getD i 0 - 1)) q hs ls (setK G x none) g hil (by simpa using hml) hq2) ?_;rintro _ _ ⟨rfl,qw,rfl⟩)|(refine wo ?_;first|(refine ao ?_;first|refine aw ?_|refine oa ?_)|refine oa ?_|refine ld ?_|refine ixmn ?_|refine li ?_|refine soi ?_)|(refine gc ?_;first|(refine ci (fun hB=>?_) (fun hB=>?_) <;> try (exfalso;omega)))|refine sq ?_|refine rg ?_|refine xc ?_|refine nl ?_|refine sk ?_|refine bk ?_|refine xb ?_
         exact lp (j + 1,_,_,qw) ⟨by dsimp only;omega,hV'⟩
        ·obtain rfl:j = (idx ls x ls.length).length:=by omega
         obtain ⟨e1,e2⟩:=hV.end
         have e3:=hV.qlen
         have e4:=idx_len ls x ls.length
         have e5:=cnt_drop hlx (left_del G x) (fun y hy=>left_del_ne G hy) (l:=belowI k) ((belowI_sorted k).imp fun h e=>by omega)
         rw [if_pos (mem_belowI.2 (hU.dom x hlx))] at e5
         clear hV
         repeat' first|(refine wo ?_;first|(refine ao ?_;first|refine oa ?_))|(refine gc ?_;first|(refine ci (fun hB=>?_) (fun hB=>?_) <;> try (exfalso;omega)))|refine sq ?_|refine rg ?_|refine xc ?_|refine nl ?_|refine xe ?_|refine xb ?_
         refine lp ⟨setK G x none,many,q,qv⟩ ⟨e1,e2⟩ (hlt:=by dsimp only;rw [e5,Nat.add_mul,Nat.one_mul];simp only [List.length_cons];omega)
end Go.Art
set_option maxRecDepth 4000
namespace Go.Art
open Go Go.Proofs Go.RowKit
attribute [local irreducible] Fit pt own ro vw mpc lpt vels rels mow lrc dfr
noncomputable def knownR (k:Int) (ls:List (List Int)):List Int:=if stopE k ls = 0 then knownL k ls else []
end Go.Art
set_option maxRecDepth 4000
namespace Go.Art
open Go Go.Proofs Go.RowKit
attribute [local irreducible] Fit pt own ro vw mpc lpt vels rels mow lrc dfr
abbrev W64 (n:Int):Value:=.int .u64 n
def bitsL (k n:Int):List Int:=(belowI k).filter fun i=>decide (n / 2 ^ i.toNat % 2 = 1)
/-! ### Examples -/
def knb (ls:List (List Int)):Nat→Int→Bool
 | 0,_=>false
 | n + 1,s=>ls.any fun l=>l.contains s && l.all fun x=>x == s || knb ls n x
end Go.Art
set_option maxRecDepth 4000
namespace Go.Art
open Go Go.Proofs Go.RowKit
attribute [local irreducible] Fit pt own ro vw mpc lpt vels rels mow lrc dfr
abbrev Ws (l:List Int):List Value:=l.map W64
section
variable {P:Program} {E:Env P} {n:Sh} {X:Cx} {s:List K} {fr:Fr} {A A' B F:List Ch} {ops:Array Oper} {rest:List Oper} {d:Nat} {ty:TypeId} {pos:String} {after:Array Edge} {v:Value} {t t':TypeId} {x y:Operand} {c0:Code}
end
def setsL (k:Int) (zs:List Int):List (List Int):=(zs.map (bitsL k)).filter fun l=>decide (0 < l.length)
structure UnG where
 i:Nat
 o:Value
 hs:List Value
 ls:List (List Int)
end Go.Art
set_option maxRecDepth 4000
namespace Go.Art
open Go Go.Proofs Go.RowKit
attribute [local irreducible] Fit pt own ro vw mpc lpt vels rels mow lrc dfr
attribute [local irreducible] lmp lme mit
def KeysOf (f:Int→Option Value) (zs:List Int):Prop:=zs.Nodup∧∀ k,k ∈ zs ↔ (f k).isSome = true
theorem Keys1_seq (c b:Nat) (f:Int→Option Value) (N:Nat) (hN:∀ zs:List Int,zs.Nodup→(∀ k ∈ zs,(f k).isSome = true)→zs.length ≤ N) :
  SeqC Tryz.prog 188 #[ptr c] [lpt c [mp b] 164,lmp b f] N (KeysOf f):=by
 refine ⟨?_,fun zs h=>hN zs h.1 fun k hk=>(h.2 k).1 hk,by (repeat (first | exact has00 | refine has01 ?_));first | done | fail⟩
 intro α l J el a0 h0 hnb hy
 refine Tr.enter env _ Tryz.func188 (by kernel_rfl) rfl Tryz.ntmps188 rfl (by repeat (first | exact has00 | refine has01 ?_)) fun w0=>?_
 refine TC.entries (b:=b) (f:=f) (fun es clock hT=>?_)
 have hold:∀ x ∈ es.toList,x.born < clock:=hT.st.1
 have hnd:(es.toList.map (·.born)).Nodup:=hT.st.2.1
 repeat' first|refine rgm (b:=b) (es:=es) (clock:=clock) fun r=>?_|(refine wo ?_;first|refine ldl ?_)|refine sq ?_|refine rg ?_|refine xc ?_|refine nl ?_|refine bk ?_
 refine TC.loop (ι:=α × Array Nat) (fun _=>[]) (fun a=>mit r b clock a.2 clock :: lme b es clock :: lpt c [mp b] 164 :: J a.1) (fun a=>(el a.1).Nodup∧∀ k,k ∈ el a.1 ↔ ∃ e ∈ es.toList,e.key = I k∧a.2.contains e.born = true) (fun a=>(leftOf es a.2).size) (a0,#[]) [0,5] ⟨by rw [h0];exact .nil,by rw [h0];simp⟩ ?_ (hf:=Fit.all)
 rintro ⟨a,seen⟩ ⟨h1,h2⟩
 dsimp only at h1 h2 ⊢
 have hkey:∀ e ∈ es.toList,∃ k,e.key = I k:=fun e he=>by
  have:=hT.ks e he
  unfold MapKept.IsKey at this
  split at this
  all_goals (first | (rename_i e1 e2;cases e1;subst this;exact ⟨_,e2⟩) | exact this.elim | (rename_i e1 _;cases e1))
 have hF:∀ seen,Fit (mit r b clock seen clock :: (lme b es clock :: lpt c [mp b] 164 :: J a)) (J a) [mit r b clock seen clock,lme b es clock,lpt c [mp b] 164]:=fun seen=>Fit.app [mit r b clock seen clock,lme b es clock,lpt c [mp b] 164] (J a)
 have hN0:(lme b es clock :: lpt c [mp b] 164 :: J a) ++ [] = lme b es clock :: lpt c [mp b] 164 :: J a:=List.append_nil _
 repeat' first|refine nxt (b:=b) (es:=es) (clock:=clock) (fun hz=>?_) (fun e he=>?_) hold (Nat.le_refl _)|(refine wo ?_;first|refine oa ?_)|(refine gc ?_;first|refine ct ?_|refine cf ?_)|refine sq ?_|refine rg ?_|refine xc ?_|refine nl ?_|refine sk ?_|refine bk ?_|refine xe ?_
 ·refine TX.im (B:=mit r b clock seen clock :: (lme b es clock :: lpt c [mp b] 164 :: J a)) (by exact Im.perm (by simp)) ?_
  refine e0 (D:=J a) ⟨a,⟨h1,fun k=>?_⟩,rfl⟩ (hf:=hF seen) (nb:=hnb a)
  rw [h2,Option.isSome_iff_exists]
  constructor
  ·rintro ⟨e,he,hk,_⟩;exact ⟨e.val,(hT.to k e.val).2 ⟨e,he,hk,rfl⟩⟩
  ·rintro ⟨v,hv⟩;obtain ⟨e,he,hk,_⟩:=(hT.to k v).1 hv;exact ⟨e,he,hk,all_seen es seen hz e he⟩
 ·obtain ⟨he1,he2⟩:=mem_left he
  obtain ⟨k,hk⟩:=hkey e he1
  have hka:k ∉ el a:=fun hm=>by
   obtain ⟨e',h3,h4,h5⟩:=(h2 k).1 hm
   obtain ⟨i1,hi1⟩:=mem_get.1 h3
   obtain ⟨i2,hi2⟩:=mem_get.1 he1
   have:=keys_inj hT.st.2.2 hi1 hi2 (by rw [h4,hk])
   subst this;rw [hi1] at hi2;cases hi2;rw [h5] at he2;cases he2
  have hex:∀ e' ∈ es.toList,∀ k',e'.key = I k'→(f k').isSome = true:=fun e' he' k' hk'=>by rw [(hT.to k' e'.val).2 ⟨e',he',hk',rfl⟩];rfl
  have hNl:(el a).length < N:=by
   have:=hN (el a ++ [k]) (by rw [List.nodup_append];exact ⟨h1,by simp,fun x hx y hy e=>hka (by rw [List.mem_singleton.1 hy] at e;rw [← e];exact hx)⟩) (fun k' hk'=>by
    rcases List.mem_append.1 hk' with hk' | hk'
    ·obtain ⟨e',h3,h4,_⟩:=(h2 k').1 hk';exact hex e' h3 k' h4
    ·rw [List.mem_singleton.1 hk'];exact hex e he1 k hk)
   simp at this;omega
  repeat' first|refine ent (e:=e) (b:=b) (es:=es) (clock:=clock) ?_ he1 hnd|(refine wo ?_;first|refine oa ?_)|refine sq ?_|refine rg ?_|refine xc ?_|refine nl ?_
  refine TO.im (B:=mit r b clock (seen.push e.born) clock :: (lme b es clock :: lpt c [mp b] 164 :: J a)) (by exact Im.perm (by simp)) ?_
  rw [hk]
  refine cy (hy a k hNl) ?_ (hs:=hF _)
  rintro ok B ⟨rfl,a',ha',rfl⟩
  repeat' first|(refine wo ?_;first|refine oa ?_)|(refine gc ?_;first|refine cf ?_)|refine xc ?_|refine nl ?_|refine sk ?_|refine xb ?_
  refine lp (a',seen.push e.born) ⟨by dsimp only;rw [ha',List.nodup_append];exact ⟨h1,by simp,fun x hx y hy e=>hka (by rw [List.mem_singleton.1 hy] at e;rw [← e];exact hx)⟩,fun k'=>?_⟩ (G:=[]) (hf:=?_) (hlt:=left_shrinks es seen e he)
  ·dsimp only
   rw [ha',List.mem_append,List.mem_singleton,h2]
   constructor
   ·rintro (⟨e',h3,h4,h5⟩ | rfl)
    ·exact ⟨e',h3,h4,by rw [contains_push,h5];rfl⟩
    ·exact ⟨e,he1,hk,by rw [contains_push];simp⟩
   ·rintro ⟨e',h3,h4,h5⟩
    rw [contains_push,Bool.or_eq_true] at h5
    rcases h5 with h5 | h5
    ·exact .inl ⟨e',h3,h4,h5⟩
    ·have hb:e'.born = e.born:=by simpa using h5
     have:=born_inj hnd h3 he1 hb
     subst this;rw [hk] at h4;cases h4;exact .inr rfl
  ·dsimp only;rw [List.append_nil];exact Fit.comm [mit r b clock (seen.push e.born) clock,lme b es clock,lpt c [mp b] 164] (J a')
theorem Keys_tr (b:Nat):Tr Tryz.prog 157 [mp b] [] [] fun v D=>∃ c,v = .func (.func 188) #[] #[ptr c]∧D = [pt c [mp b] 164]:=by
 refine Tr.enter env _ Tryz.func157 (by kernel_rfl) rfl Tryz.ntmps157 rfl (by repeat (first | exact has00 | refine has01 ?_)) fun w0=>?_
 repeat' first|refine bx1 fun c=>?_|(refine wo ?_;first|refine oa ?_)|refine sq ?_|refine rg ?_|refine xc ?_|refine nl ?_|refine rt ?_
 exact r1 ⟨c,rfl,rfl⟩
theorem srt_keys {k:Int} {p:Int→Bool} {zs:List Int} (h:zs.Nodup) (hz:∀ x,x ∈ zs ↔ (0 ≤ x∧x < k)∧p x = true):srt zs = (belowI k).filter p:=by
 have h2:((belowI k).filter p).Pairwise (· < ·):=(belowI_sorted k).sublist List.filter_sublist
 refine List.Perm.eq_of_pairwise (le:=(· ≤ ·)) (fun a b _ _ h1 h2=>by omega) (srt_sorted zs) (h2.imp fun h=>Int.le_of_lt h) ?_
 refine (srt_perm zs).trans ?_
 rw [List.perm_ext_iff_of_nodup h (h2.imp fun h e=>by omega)]
 intro x
 rw [hz,List.mem_filter,mem_belowI]
theorem nodup_len {zs L:List Int} (h1:zs.Nodup) (hL:L.Nodup) (h:∀ x ∈ zs,x ∈ L):zs.length ≤ L.length:=by
 have hp:zs.Perm (L.filter fun x=>decide (x ∈ zs)):=by
  rw [List.perm_ext_iff_of_nodup h1 (hL.sublist List.filter_sublist)]
  intro x
  rw [List.mem_filter,decide_eq_true_eq]
  exact ⟨fun hx=>⟨h x hx,hx⟩,fun hx=>hx.2⟩
 rw [hp.length_eq];exact List.length_filter_le _ _
noncomputable def largeR (k:Int) (ls:List (List Int)):List Int:=if stopE k ls = 0 then largeL k ls else []
theorem Largest_tr (k:Int) (s:Value) (hs:List Value) (ls:List (List Int)) (hn:ls.length ≤ 4096):Tr Tryz.prog 121 [I k,s] [vw s hs,vels hs ls] [] fun v D=>∃ o,v = tup2 o (I (stopE k ls))∧D = [own 3 o (Is (largeR k ls))]:=by
 refine Tr.enter env _ Tryz.func121 (by kernel_rfl) rfl Tryz.ntmps121 rfl (by repeat (first | exact has00 | refine has01 ?_)) fun w0=>?_
 refine TC.els (hs:=hs) (ls:=ls) (fun hl=>?_)
 repeat' first|(refine gca ?_;first|(refine ca (refuses_tr _ _ _ ls) ?_;rintro _ _ ⟨rfl,rfl⟩))|(refine wo ?_;first|(refine ao ?_;first|refine oa ?_)|refine oa ?_)|(refine gc ?_;first|(refine cn (fun hB=>?_) (fun hB=>?_) <;> try (exfalso;omega)))|refine sq ?_|refine rg ?_|refine xc ?_|refine nl ?_|refine sk ?_|refine rt ?_
 ·refine TX.im (own_nil 3 _) ?_
  exact r2 ⟨nS,rfl,by rw [largeR,if_neg (by assumption)]⟩
 have hE:stopE k ls = 0:=hB
 obtain ⟨hk1,hk2,hsets⟩:=stopE_zero hE
 refine ca (unknown_tr k s hs ls hE hn) ?_
 rintro _ _ ⟨b,G,g,rfl,rfl,hG⟩
 obtain ⟨-,hkn⟩:=known_of (k:=k) (ls:=ls) (left G) (fun s h0 h1=>by rw [hG];simp [h0,h1])
 have hleft:∀ x,(ones G x).isSome = true ↔ left G x = true:=fun x=>by unfold ones left;cases G x <;> simp
 have hD:∀ zs,KeysOf (ones G) zs→srt zs = largeL k ls:=fun zs h=>by
  rw [hkn]
  refine srt_keys h.1 fun x=>?_
  rw [h.2,hleft]
  exact ⟨fun h=>⟨((hG x).1 h).1,h⟩,fun h=>h.2⟩
 have hN:∀ zs:List Int,zs.Nodup→(∀ x ∈ zs,(ones G x).isSome = true)→zs.length ≤ 65536:=fun zs h1 h2=>by
  have:=nodup_len h1 ((belowI_sorted k).imp fun h e=>by omega) fun x hx=>mem_belowI.2 ((hG x).1 ((hleft x).1 (h2 x hx))).1
  rw [belowI_len] at this;omega
 repeat' first|(refine gca ?_;first|(refine ca (Keys_tr b) ?_;rintro _ _ ⟨c,rfl,rfl⟩))|(refine wo ?_;first|(refine ao ?_;first|refine aw ?_|refine aw6 ?_|refine oa ?_|refine adiv ?_|refine amod ?_|refine shr1 ?_|refine shr ?_|refine umod ?_|refine isl ?_|refine ipe ?_|refine ipn ?_|refine ibe ?_)|refine acw ?_|refine ucv ?_|refine anw ?_|refine oa ?_|refine ld ?_|refine ldl ?_|refine lnm ?_|refine ixmn ?_|refine ixm ?_|refine li ?_|refine lb ?_|refine lv ?_|refine ln ?_|refine ixn ?_|refine ix ?_|refine le ?_|refine sr ?_|refine soi ?_|refine sob ?_|refine scm ?_|refine sclm ?_|refine schm ?_|refine gy ?_|refine gn ?_|refine gnn ?_|refine gu ?_|(refine gsi (fun hB=>?_) (fun hB=>?_) <;> try (exfalso;omega))|(refine gsn (fun hB=>?_) (fun hB=>?_) <;> try (exfalso;omega))|(refine gs (fun hB=>?_) (fun hB=>?_) <;> try (exfalso;omega)))|(refine gc ?_;first|refine ct ?_|refine cf ?_|(refine ci (fun hB=>?_) (fun hB=>?_) <;> try (exfalso;omega))|(refine cn (fun hB=>?_) (fun hB=>?_) <;> try (exfalso;omega))|(refine cb (fun hB=>?_) (fun hB=>?_) <;> try (exfalso;omega)))|refine sq ?_|refine rg ?_|refine xc ?_|refine nl ?_|refine sk ?_|refine bk ?_|refine xe ?_|refine rt ?_|refine xb ?_
 refine ca (Sorted_tr (Keys1_seq c b (ones G) 65536 hN) (by decide)) ?_ (hp:=has1 hasA (has1 (has_mow (T:=3) (g:=g) (o:=none) memA) has0))
 rintro v _ ⟨zs,hz,rfl⟩
 rw [show largeR k ls = largeL k ls by rw [largeR,if_pos hE],hD zs hz,hE]
 repeat' first|(refine wo ?_;first|refine oa ?_)|refine xc ?_|refine nl ?_|refine rt ?_
 exact r2 ⟨v,rfl,rfl⟩
theorem Fails_tr (k:Int) (s:Value) (hs:List Value) (ls:List (List Int)) (hn:ls.length ≤ 4096):Tr Tryz.prog 76 [I k,s] [vw s hs,vels hs ls] [] fun v D=>v = tup2 (.bool (decide (0 < (largeR k ls).length))) (I (stopE k ls))∧D = []:=by
 refine Tr.enter env _ Tryz.func76 (by kernel_rfl) rfl Tryz.ntmps76 rfl (by repeat (first | exact has00 | refine has01 ?_)) fun w0=>?_
 repeat' first|(refine gca ?_;first|(refine ca (Largest_tr _ _ _ ls hn) ?_;rintro _ _ ⟨o,rfl,rfl⟩))|(refine wo ?_;first|(refine ao ?_;first|refine oa ?_)|refine oa ?_|refine lnm ?_)|refine sq ?_|refine rg ?_|refine xc ?_|refine nl ?_|refine rt ?_
 refine r2 ⟨?_,rfl⟩
 congr 3
 simp
end Go.Art
namespace Go.Art
open Go Go.Proofs Go.RowKit
abbrev irow (s:Value) (q:Rat) (h:Value × Value):List Value:=s :: rrow q h
def ics (ss:List Value) (qs:List Rat) (hs:List (Value × Value)):List Value:=(List.zipWith List.cons ss (List.zipWith rrow qs hs)).flatten
theorem ics_app {ss rs:List Value} {qs ps:List Rat} {hs gs:List (Value × Value)} (h1:ss.length = qs.length) (h2:hs.length = qs.length):ics (ss ++ rs) (qs ++ ps) (hs ++ gs) = ics ss qs hs ++ ics rs ps gs:=by
 unfold ics
 rw [List.zipWith_append h2.symm,List.zipWith_append (by simp;omega),List.flatten_append]
theorem ics_one (s:Value) (q:Rat) (h:Value × Value):ics [s] [q] [h] = irow s q h:=by simp [ics]
theorem ics_rows {ss:List Value} {qs:List Rat} {hs:List (Value × Value)}:∀ r ∈ List.zipWith List.cons ss (List.zipWith rrow qs hs),r.length = 4:=fun r hr=>by
 obtain ⟨j,hj,rfl⟩:=List.mem_iff_getElem.1 hr
 rw [List.getElem_zipWith,List.getElem_zipWith];rfl
theorem ics_row {ss:List Value} {qs:List Rat} {hs:List (Value × Value)} (h1:ss.length = qs.length) (h2:hs.length = qs.length) {i:Nat} (hi:i < qs.length):((ics ss qs hs).drop (4 * i)).take 4 = irow (ss.getD i nS) (qs.getD i 0) (hs.getD i nS2):=by
 refine flat_row (sz:=4) ics_rows ?_
 rw [List.getElem?_zipWith,List.getElem?_zipWith,List.getElem?_eq_getElem hi,List.getElem?_eq_getElem (show i < hs.length by omega),List.getElem?_eq_getElem (show i < ss.length by omega)]
 simp [List.getD_eq_getElem?_getD,hi,show i < hs.length by omega,show i < ss.length by omega]
theorem row_cell {xs:List Value} {m i:Nat} {r:List Value} (h:(xs.drop m).take 4 = r) (hi:i < 4) (hl:r.length = 4):xs[m + i]? = r[i]?:=by
 rw [← h,List.getElem?_take,if_pos hi,List.getElem?_drop]
theorem row_sub {xs:List Value} {m:Nat} {a:Value} {r:List Value} (h:(xs.drop m).take 4 = a :: r) (hl:r.length = 3):(xs.drop (m + 1)).take 3 = r:=by
 have h2:((xs.drop m).take 4).drop 1 = r:=by rw [h];rfl
 rw [List.drop_take,List.drop_drop] at h2
 exact h2
theorem has_velsI {F:List Ch} {hs:List Value} {ls:List (List Int)} (h:Has F (velg I hs ls)):Has F (vels hs ls):=⟨h.P,fun _ h=>h,fun _ h=>h,fun b hb=>h.ft b hb⟩
theorem has_pick {g:Int→Value} {F:List Ch} {ss:List Value} {ls:List (List Int)} (h:Has F (velg g ss ls)):∀ l:List Nat,(∀ i ∈ l,i < ls.length)→Has F (velg g (l.map fun i=>ss.getD i nS) (l.map fun i=>ls.getD i []))
 | [],_=>has_velg_nil
 | i :: r,hl=>has_velg_cons (has_elg h (hl i (by simp))) (has_pick h r fun j hj=>hl j (by simp [hj]))
theorem has_fpick {F:List Ch} {hs:List (Value × Value)} {qs:List Rat} (h:Has F (vfr hs qs)) (hl:hs.length = qs.length):∀ l:List Nat,(∀ i ∈ l,i < qs.length)→Has F (vfr (l.map fun i=>hs.getD i nS2) (l.map fun i=>qs.getD i 0))
 | [],_=>has_vfr_nil
 | i :: r,hm=>by
  have h2:=has_fr h hl (hm i (by simp))
  exact has_vfr_cons h2.1 h2.2 (has_fpick h hl r fun j hj=>hm j (by simp [hj]))
theorem mk_mul (a b D E:Nat) (hD:D ≠ 0) (hE:E ≠ 0):mkRat (a:Int) D * mkRat (b:Int) E = mkRat ((a * b:Nat):Int) (D * E):=by
 rw [Rat.mkRat_mul_mkRat]
 push_cast;rfl
theorem prod_mk {L:List (List Int × Nat)} {D:Nat} (hD:D ≠ 0) (l:List Nat):(l.map fun i=>mkRat (((L.getD i ([],0)).2:Nat):Int) D).foldl (· * ·) 1 = mkRat ((prdW L l:Nat):Int) (D ^ l.length):=by
 have key:∀ (l:List Nat) (a q:Nat),(l.map fun i=>mkRat (((L.getD i ([],0)).2:Nat):Int) D).foldl (· * ·) (mkRat (a:Int) (D ^ q)) = mkRat ((l.foldl (fun a i=>a * (L.getD i ([],0)).2) a:Nat):Int) (D ^ (q + l.length)):=by
  intro l
  induction l with
  | nil=>intro a q;rfl
  | cons i r ih=>
   intro a q
   rw [List.map_cons,List.foldl_cons,mk_mul _ _ _ _ (Nat.ne_of_gt (Nat.pow_pos (Nat.pos_of_ne_zero hD))) hD,← Nat.pow_succ,ih,List.foldl_cons,List.length_cons]
   congr 2;omega
 have:=key l 1 0
 rw [Nat.pow_zero,Nat.zero_add] at this
 exact this
theorem dg_pow {D b n:Nat} (h:D < 18446744073709551616 ^ b):(dg (4096 * D ^ n)).length ≤ b * n + 1:=by
 refine (dg_len _ _).2 ?_
 have h1:D ^ n ≤ (18446744073709551616 ^ b) ^ n:=Nat.pow_le_pow_left (Nat.le_of_lt h) n
 rw [← Nat.pow_mul] at h1
 rw [Nat.pow_succ,Nat.mul_comm]
 have h2:0 < 18446744073709551616 ^ (b * n):=Nat.pow_pos (by decide)
 exact Nat.lt_of_le_of_lt (Nat.mul_le_mul_right 4096 h1) (Nat.mul_lt_mul_of_pos_left (by decide) h2)
theorem FB_pow {a D b n B:Nat} (hD0:D ≠ 0) (hD:D < 18446744073709551616 ^ b) (ha:a ≤ 4096 * D ^ n) (hB:b * n + 1 ≤ B):FB (mkRat (a:Int) (D ^ n)) B:=by
 have h1:=dg_pow (n:=n) hD
 refine FB_mk (Nat.ne_of_gt (Nat.pow_pos (Nat.pos_of_ne_zero hD0))) (Nat.le_trans (dg_mono ha) (by omega)) (Nat.le_trans (dg_mono (show D ^ n ≤ 4096 * D ^ n by omega)) (by omega))
section
variable {P:Program} {E:Env P} {n:Sh} {fr:Fr} {A A' D G:List Ch} {m:Nat}
theorem mca {Ds:List Nat} {w0:World} {A0:List Ch} {R':Value→List Ch→Prop} {fn:Func} {t u:Nat} {ty T:TypeId} {dt:TypeDesc} {z:Value} {sz by_ b:Nat} {cs vs:List Value} {v2:Value} (h:R' (.tuple #[.agg vs.toArray,v2]) D) (hr:fn.results = #[.cell t ty,.tmp u]:=by rfl) (ht:lk E.und ty = some dt:=by rfl) (hg:aggB dt = true:=by rfl) (hi:lk E.inf ty = some (z,sz,by_):=by rfl)
  (hv:get fr t = some (ptr b):=by rfl) (hv2:get fr u = some v2:=by rfl) (hm:Tk (dfrl Ds) A A':=by exact tkA) (hp:pt b cs T ∈ A':=by exact memA) (hcs:cs.take sz = vs:=by rfl) (hl:vs.length = sz:=by rfl) (hf:Fit A' D G:=by exact fitA) (nb:∀ c ∈ D,∀ b,¬ c.bd b:=by (repeat (first | exact nb0 | refine nb1 ?_));first | done | fail) (hn:n = ⟨m,marks Ds,none⟩:=by rfl) :
  TX E n ⟨bodyPostM (FF none) 0 P fn (RetP (PR w0 A0 R')),w0,A0⟩ [] .ret fr A:=by
 subst hn
 exact mG (.inl rfl) h (fun w hw a ha=>res_at (E:=E) ha hr ht hg hi hv (pt_at hp hw) hcs hl hv2) hm hf nb
end
abbrev TIm:TypeId:=83
abbrev TSm:TypeId:=60
attribute [local irreducible] Fit pt own ro vw mpc lpt vels rels mow lrc dfr
attribute [local irreducible] lmp lme mit velg relg bnd owl dfrl
theorem sumAdd_tr (c:Nat) (q r:Rat) (v1 v2 v3 v4:Value) (h1:v1.oneCell' = true) (h2:v2.oneCell' = true) (h3:v3.oneCell' = true) (h4:v4.oneCell' = true) (hq:FB q 8589934592) (hr:FB r 8589934592) :
  Tr Tryz.prog 72 [rv r v3 v4,ptr c] [vw v3 (Us (dg r.num.natAbs)),vw v4 (Us (dg r.den))] [pt c (rrow q (v1,v2)) TRt,own T64 v1 (Us (dg q.num.natAbs)),own T64 v2 (Us (dg q.den))]
  fun u D=>∃ n1 n2,u = .tuple #[]∧n1.oneCell' = true∧n2.oneCell' = true∧D = [pt c (rrow (q + r) (n1,n2)) TRt,own T64 n1 (Us (dg (q + r).num.natAbs)),own T64 n2 (Us (dg (q + r).den))]:=by
 have hA:=fun lv=>FAdd2_tr q r lv v1 v2 v3 v4 hq hr
 unfold FQ2 at hA
 obtain ⟨s,hs⟩ : ∃ s,s = q + r:=⟨_,rfl⟩
 rw [← hs] at hA ⊢
 refine Tr.enter env _ Tryz.func72 (by kernel_rfl) rfl Tryz.ntmps72 rfl (by repeat (first | exact has00 | refine has01 ?_)) fun w0=>?_
 repeat' first|(refine gca ?_;first|(refine ca (hA _) ?_ (hp:=has1 (has_oww memA) (has1 hasA (has1 hasA (has1 hasA (has1 hasA has0)))));rintro _ _ ⟨n1,n2,rfl,hn1,hn2,rfl⟩))|refine bx fun b=>?_|refine lda (cs:=rrow q (v1,v2)) ?_|refine lda ?_|refine slws fun g2=>?_|refine srz ?_ (hj:=Nat.le_of_ble_eq_true rfl)|(refine wo ?_;first|refine oa ?_)|refine sq ?_|refine rg ?_|refine xc ?_|refine nl ?_
 exact e0 ⟨n1,n2,rfl,hn1,hn2,rfl⟩
theorem fails_trm (k:Int) (s:Value) (hs:List Value) (ls:List (List Int)) (hn:ls.length ≤ 4096):Tr Tryz.prog 40 [I k,s] [vw s hs,vels hs ls] [] fun v D=>v = .bool (decide (0 < (largeR k ls).length))∧D = []:=by
 refine Tr.enter env _ Tryz.func40 (by kernel_rfl) rfl Tryz.ntmps40 rfl (by repeat (first | exact has00 | refine has01 ?_)) fun w0=>?_
 repeat' first|(refine gca ?_;first|(refine ca (Fails_tr k s hs ls hn) ?_;rintro _ _ ⟨rfl,rfl⟩))|(refine wo ?_;first|refine oa ?_)|refine sq ?_|refine rg ?_|refine xc ?_|refine nl ?_|refine rt ?_
 exact r1 ⟨rfl,rfl⟩
theorem all_trm (k:Int) (s:Value):Tr Tryz.prog 39 [I k,s] [] [] fun v D=>v = .bool true∧D = []:=by
 refine Tr.enter env _ Tryz.func39 (by kernel_rfl) rfl Tryz.ntmps39 rfl (by repeat (first | exact has00 | refine has01 ?_)) fun w0=>?_
 repeat' first|(refine wo ?_;first|refine oa ?_)|refine sq ?_|refine rg ?_|refine xc ?_|refine nl ?_|refine rt ?_
 exact r1 ⟨rfl,rfl⟩
end Go.Art
namespace Go.Art
open Go Go.Proofs Go.RowKit
def sumW (W:List (List Int)→Bool) (L:List (List Int × Nat)) (D n:Nat):Fr3 × Int:=
 if L.length ≤ 4096∧L.length ^ n ≤ 4096 then (rqf (mkRat ((natG W L n [] 1:Nat):Int) (D ^ n)),0) else (rqn,4)
abbrev fracs (L:List (List Int × Nat)) (D:Nat):List Rat:=L.map fun s=>mkRat ((s.2:Nat):Int) D
theorem fracs_get {L:List (List Int × Nat)} {D i:Nat} (h:i < L.length):(fracs L D).getD i 0 = mkRat (((L.getD i ([],0)).2:Nat):Int) D:=by simp [List.getD_eq_getElem?_getD,h]
theorem fst_get {L:List (List Int × Nat)} {i:Nat} (h:i < L.length):(L.map (·.1)).getD i [] = (L.getD i ([],0)).1:=by simp [List.getD_eq_getElem?_getD,h]
theorem elg_one {g:Int→Value} {F:List Ch} {ss:List Value} {ls:List (List Int)} (h:Has F (velg g ss ls)) {i:Nat} (hi:i < ls.length) (w:World) (hw:Sat F w):(ss.getD i nS).oneCell' = true:=by
 obtain ⟨_,_,e,_⟩:=((has_elg h hi).P w hw:Sl w _ _)
 rw [e];rfl
structure SmG where
 j:Nat
 vn:Value
 vd:Value
structure SnG where
 j:Nat
 sv:Value
 mv:Value
attribute [local irreducible] Fit pt own ro vw mpc lpt vels rels mow lrc dfr
attribute [local irreducible] lmp lme mit velg relg bnd owl dfrl accN natG tupN prdW
set_option maxHeartbeats 1000000 in
theorem Sum_tr (lv:Value) (hlv:lv.oneCell' = true) (ss:List Value) (hs:List (Value × Value)) (L:List (List Int × Nat)) (D n:Nat) (k:Int) (wf:FuncId) (W:List (List Int)→Bool) (hss:ss.length = L.length) (hhs:hs.length = L.length)
  (hL0:0 < L.length) (hwb:∀ s ∈ L,s.2 ≤ D) (hD0:D ≠ 0) (hD:D < 18446744073709551616 ^ 10) (hn:n ≤ 12)
  (hW:∀ (v:Value) (l:List Nat),l.length = n→(∀ i ∈ l,i < L.length)→Tr Tryz.prog wf [I k,v] [vw v (l.map fun i=>ss.getD i nS),vels (l.map fun i=>ss.getD i nS) (selS L l)] [] fun u D=>u = .bool (W (selS L l))∧D = []) :
  Tr Tryz.prog 38 [lv,I k,I n,.func (.func wf) #[] #[]] [vwf lv L.length (ics ss (fracs L D) hs),velg I ss (L.map (·.1)),vfr hs (fracs L D)] [] (FW (sumW W L D n)):=by
 have hE:D ^ n ≠ 0:=Nat.ne_of_gt (Nat.pow_pos (Nat.pos_of_ne_zero hD0))
 have hfl:(fracs L D).length = L.length:=by simp
 by_cases hbig:L.length ≤ 4096∧L.length ^ n ≤ 4096
 rotate_left
 ·unfold sumW
  rw [if_neg hbig]
  refine Tr.mono (R:=fun u D=>u = tup2 rv0 (I 4)∧D = [own T64 nS (Us []),own T64 nS (Us [])]) ?_ fun u D h=>FW.of0 h
  have hF:=fun h=>few_tr23 L.length n ⟨hL0,h⟩ (by omega)
  generalize ics ss (fracs L D) hs = xs at *
  refine Tr.enterM env _ Tryz.func38 (by kernel_rfl) rfl Tryz.ntmps38 rfl (by repeat (first | exact has00 | refine has01 ?_)) fun w0=>?_
  by_cases hN:L.length ≤ 4096
  ·have hF1:=hF hN
   have hno:¬ L.length ^ n ≤ 4096:=fun h=>hbig ⟨hN,h⟩
   clear hbig hE
   generalize L.length ^ n = p at *
   repeat' first|(refine gca ?_;first|(refine ca hF1 ?_;rintro _ _ ⟨⟨b,rfl,hb⟩,rfl⟩;obtain rfl:b = false:=by cases b;rfl;exact absurd (hb.1 rfl) hno))|refine bx1 fun b=>?_|refine al fun c=>?_|refine lnw (N:=L.length) (xs:=xs) ?_|refine bdz ?_|refine srz ?_|(refine wo ?_;first|(refine ao ?_;first|refine oa ?_)|refine oa ?_|refine ld ?_|refine gy ?_|(refine gsi (fun hB=>?_) (fun hB=>?_) <;> try (exfalso;omega)))|(refine gc ?_;first|refine ct ?_)|refine sq ?_|refine rg ?_|refine xc ?_|refine nl ?_|refine rt ?_
   refine TX.im (dfrl_nil _) ?_
   refine TX.im (own_nil T64 _) (TX.im (own_nil T64 _) ?_)
   exact mca (Ds:=[]) (cs:=[.bool false,nS,nS]) (vs:=[.bool false,nS,nS]) (T:=TRt) ⟨rfl,rfl⟩
  ·clear hbig hE
   repeat' first|refine bx1 fun b=>?_|refine al fun c=>?_|refine lnw (N:=L.length) (xs:=xs) ?_|refine bdz ?_|refine srz ?_|(refine wo ?_;first|(refine ao ?_;first|refine oa ?_)|refine oa ?_|refine ld ?_|refine gn ?_|(refine gsi (fun hB=>?_) (fun hB=>?_) <;> try (exfalso;omega)))|(refine gc ?_;first|refine ct ?_)|refine sq ?_|refine rg ?_|refine xc ?_|refine nl ?_|refine rt ?_
   refine TX.im (dfrl_nil _) ?_
   refine TX.im (own_nil T64 _) (TX.im (own_nil T64 _) ?_)
   exact mca (Ds:=[]) (cs:=[.bool false,nS,nS]) (vs:=[.bool false,nS,nS]) (T:=TRt) ⟨rfl,rfl⟩
 obtain ⟨hN,hNn⟩:=hbig
 unfold sumW
 rw [if_pos ⟨hN,hNn⟩]
 have hz0:mkRat ((0:Nat):Int) 1 = mkRat ((accN W L n 0:Nat):Int) (D ^ n):=by rw [accN_zero];simp
 have hP:=FPair_tr 0 1 (by decide) (by decide) (by decide)
 unfold FQ2 at hP
 rw [hz0] at hP
 have hF1:=few_tr23 L.length n ⟨hL0,hN⟩ (by omega)
 have hT:=tuples_tr (L.length:Int) (n:Int)
 have hseq:=fun pn pm=>tuples1_seq L.length n pn pm hL0 hNn (by omega) hN
 have hfull:=accN_full W hL0 n
 have hacF:∀ j,j ≤ L.length ^ n→FB (mkRat ((accN W L n j:Nat):Int) (D ^ n)) 8589934592:=fun j hj=>FB_pow hD0 hD (Nat.le_trans (accN_le hwb j) (Nat.mul_le_mul_right _ (by omega))) (by omega)
 have hacS:∀ j,mkRat ((accN W L n j:Nat):Int) (D ^ n) + mkRat ((tupN W L (digs L.length n j):Nat):Int) (D ^ n) = mkRat ((accN W L n (j + 1):Nat):Int) (D ^ n):=fun j=>by rw [mk_add _ _ _ hE,accN_succ]
 rw [← hfull]
 clear hfull hz0
 obtain ⟨ac,hac⟩ : ∃ ac:Nat→Rat,ac = fun j=>mkRat ((accN W L n j:Nat):Int) (D ^ n):=⟨_,rfl⟩
 have hac1:∀ j,mkRat ((accN W L n j:Nat):Int) (D ^ n) = ac j:=fun j=>by rw [hac]
 simp only [hac1] at hP hacF hacS ⊢
 clear hac hac1
 obtain ⟨M,hM⟩ : ∃ M,M = L.length ^ n:=⟨_,rfl⟩
 refine Tr.enterM env _ Tryz.func38 (by kernel_rfl) rfl Tryz.ntmps38 rfl (by repeat (first | exact has00 | refine has01 ?_)) fun w0=>?_
 repeat' first|(refine gca ?_;first|(refine ca hF1 ?_;rintro _ _ ⟨⟨b,rfl,hb⟩,rfl⟩;obtain rfl:b = true:=hb.2 hNn)|(refine ca hP ?_;rintro _ _ ⟨vn,vd,rfl,hvn,hvd,rfl⟩)|(refine ca hT ?_;rintro _ _ ⟨pn,pm,rfl,rfl⟩))|refine bx1 fun b=>?_|refine al fun c=>?_|refine lnw (N:=L.length) (xs:=ics ss (fracs L D) hs) ?_|refine srz ?_|(refine wo ?_;first|(refine ao ?_;first|refine oa ?_)|refine oa ?_|refine ld ?_|refine sr ?_|refine gy ?_|(refine gsi (fun hB=>?_) (fun hB=>?_) <;> try (exfalso;omega)))|(refine gc ?_;first|refine cf ?_)|refine sq ?_|refine rg ?_|refine xc ?_|refine nl ?_|refine sk ?_|refine bk ?_
 rename_i c4 c5 c8 c10
 have hS:=@SeqV.run _ _ _ _ _ (hseq pn pm)
 rw [tupsL_len] at hS
 have hfg:=fun i (h:i < L.length)=>fracs_get (D:=D) h
 have hrowA:=fun i (h:i < L.length)=>ics_row (ss:=ss) (qs:=fracs L D) (hs:=hs) (by rw [hfl];exact hss) (by rw [hfl];exact hhs) (i:=i) (by rw [hfl];exact h)
 have hqF:∀ i,i < L.length→FB ((fracs L D).getD i 0) 8589934592:=fun i h=>by
  rw [hfg i h]
  have:=FB_pow (a:=(L.getD i ([],0)).2) (n:=1) (B:=8589934592) hD0 hD (by
   rw [Nat.pow_one]
   have:=hwb (L.getD i ([],0)) (by rw [List.getD_eq_getElem?_getD,List.getElem?_eq_getElem h];exact List.getElem_mem h)
   omega) (by omega)
  rwa [Nat.pow_one] at this
 clear hseq hT hP hF1
 generalize hxs4:ics ss (fracs L D) hs = xs4 at *
 clear hxs4
 refine TC.range [lbd [lpt c4 [lv] TSm,lpt c5 [I k] TLI,lpt b [.func (.func wf) #[] #[]] 64,lpt c [.func (.func 72) #[] #[ptr c10]] 52,vwf lv L.length xs4,velg I ss (L.map (·.1)),vfr hs (fracs L D)],lpt pn [I n] TLI,lpt pm [I L.length] TLI] [pt c10 (rrow (ac 0) (vn,vd)) TRt,own T64 vn (Us (dg (ac 0).num.natAbs)),own T64 vd (Us (dg (ac 0).den))] (fun l2 rec Dm pend B'=>∃ vn vd,B' = [dfr Dm,pt c10 (rrow (ac M) (vn,vd)) TRt,own T64 vn (Us (dg (ac M).num.natAbs)),own T64 vd (Us (dg (ac M).den))]∧pend = none∧vn.oneCell' = true∧vd.oneCell' = true) ?_ ?_ (hp:=has1 (lbd_of (has1 hasA (has1 hasA (has1 hasA (has1 hasA (has1 hasA (has1 hasA (has1 hasA has0)))))))) (has1 hasA (has1 hasA has0)))
 ·intro rec l2 Dm hr
  refine Tr.unb (hS (α:=SmG) (lbd [lpt c4 [lv] TSm,lpt c5 [I k] TLI,lpt b [.func (.func wf) #[] #[]] 64,lpt c [.func (.func 72) #[] #[ptr c10]] 52,vwf lv L.length xs4,velg I ss (L.map (·.1)),vfr hs (fracs L D)]) l2 (fun g=>bnd [lrc l2 rec .ready none,dfr Dm,pt c10 (rrow (ac g.j) (g.vn,g.vd)) TRt,own T64 g.vn (Us (dg (ac g.j).num.natAbs)),own T64 g.vd (Us (dg (ac g.j).den))]) (fun g i=>g.j = i∧g.vn.oneCell' = true∧g.vd.oneCell' = true) (fun _=>False) ⟨0,vn,vd⟩ ⟨rfl,hvn,hvd⟩ (fun p=>bnd_nob (nb1 (nb1 (nb1 (nb1 (nb1 nb0)))))) ?_) ?_
  ·rintro ⟨j,vn,vd⟩ i x ⟨hji,hvn,hvd⟩ hj
   dsimp only at hji hvn hvd
   subst hji
   rw [tupsL_get hj]
   refine Ty.bnd ?_
   have hFj:=hacF j (by omega)
   have hSj:=hacS j
   obtain ⟨dl,hdl⟩ : ∃ dl,dl = digs L.length n j:=⟨_,rfl⟩
   have hdn:dl.length = n:=by rw [hdl];exact digs_len _ _ _
   have hdb:∀ i ∈ dl,i < L.length:=by rw [hdl];exact digs_lt hL0 n j
   rw [← hdl] at hSj ⊢
   clear hdl hacF hacS hS
   obtain ⟨xs,hxs⟩ : ∃ xs:List Int,xs = dl.map Int.ofNat:=⟨_,rfl⟩
   have hxl:xs.length = n:=by rw [hxs,List.length_map];exact hdn
   have hxg:∀ i,i < n→xs.getD i 0 = ((dl.getD i 0:Nat):Int):=fun i h=>by rw [hxs];simp [List.getD_eq_getElem?_getD,show i < dl.length by omega]
   rw [← hxs]
   clear hxs
   have hw1:=hW
   refine Ty.pre (pre:=vw x (Is xs) :: [lpt c4 [lv] TSm,lpt c5 [I k] TLI,lpt b [.func (.func wf) #[] #[]] 64,lpt c [.func (.func 72) #[] #[ptr c10]] 52,vwf lv L.length xs4,velg I ss (L.map (·.1)),vfr hs (fracs L D)]) ?_ (has1 hasA (has1 (has_lbd (C:=[lpt c4 [lv] TSm,lpt c5 [I k] TLI,lpt b [.func (.func wf) #[] #[]] 64,lpt c [.func (.func 72) #[] #[ptr c10]] 52,vwf lv L.length xs4,velg I ss (L.map (·.1)),vfr hs (fracs L D)]) (has_mem memA) memA) (has1 (has_lbd (C:=[lpt c4 [lv] TSm,lpt c5 [I k] TLI,lpt b [.func (.func wf) #[] #[]] 64,lpt c [.func (.func 72) #[] #[ptr c10]] 52,vwf lv L.length xs4,velg I ss (L.map (·.1)),vfr hs (fracs L D)]) (has_mem memA) memA) (has1 (has_lbd (C:=[lpt c4 [lv] TSm,lpt c5 [I k] TLI,lpt b [.func (.func wf) #[] #[]] 64,lpt c [.func (.func 72) #[] #[ptr c10]] 52,vwf lv L.length xs4,velg I ss (L.map (·.1)),vfr hs (fracs L D)]) (has_mem memA) memA) (has1 (has_lbd (C:=[lpt c4 [lv] TSm,lpt c5 [I k] TLI,lpt b [.func (.func wf) #[] #[]] 64,lpt c [.func (.func 72) #[] #[ptr c10]] 52,vwf lv L.length xs4,velg I ss (L.map (·.1)),vfr hs (fracs L D)]) (has_mem memA) memA) (has1 (has_lbd (C:=[lpt c4 [lv] TSm,lpt c5 [I k] TLI,lpt b [.func (.func wf) #[] #[]] 64,lpt c [.func (.func 72) #[] #[ptr c10]] 52,vwf lv L.length xs4,velg I ss (L.map (·.1)),vfr hs (fracs L D)]) (has_mem memA) memA) (has1 (has_lbd (C:=[lpt c4 [lv] TSm,lpt c5 [I k] TLI,lpt b [.func (.func wf) #[] #[]] 64,lpt c [.func (.func 72) #[] #[ptr c10]] 52,vwf lv L.length xs4,velg I ss (L.map (·.1)),vfr hs (fracs L D)]) (has_mem memA) memA) (has1 (has_lbd (C:=[lpt c4 [lv] TSm,lpt c5 [I k] TLI,lpt b [.func (.func wf) #[] #[]] 64,lpt c [.func (.func 72) #[] #[ptr c10]] 52,vwf lv L.length xs4,velg I ss (L.map (·.1)),vfr hs (fracs L D)]) (has_mem memA) memA) has0)))))))) (by repeat (first | exact has00 | refine has01 ?_))
   refine Ty.intro env hr (by repeat (first | exact has00 | refine has01 ?_)) fun w1=>?_
   refine TC.fact (p:=∀ i,i < L.length→(ss.getD i nS).oneCell' = true) (fun w hw i hi=>elg_one (g:=I) (ls:=L.map (·.1)) hasA (by simpa using hi) w hw) fun hso=>?_
   refine TC.fact (p:=∀ i,i < L.length→(hs.getD i nS2).1.oneCell' = true∧(hs.getD i nS2).2.oneCell' = true) (fun w hw i hi=>fr_one (hs:=hs) (qs:=fracs L D) hasA (by rw [hfl];exact hhs) (by rw [hfl];exact hi) w hw) fun hfo=>?_
   repeat' first|refine xbeg ?_|(refine wo ?_;first|refine oa ?_|refine lnm ?_)|refine sq ?_|refine rg ?_|refine xc ?_|refine nl ?_|refine bk ?_
   refine TC.im (own_nil TLs _) (TC.im (oww_nil TRt 3 _) ?_)
   refine TC.loop (ι:=SnG) (fun g=>[(43,I g.j),(14,g.sv),(15,g.mv)]) (fun g=>[own TLs g.sv ((dl.take g.j).map fun i=>ss.getD i nS),oww TRt 3 g.mv g.j (rcs ((dl.take g.j).map fun i=>(fracs L D).getD i 0) ((dl.take g.j).map fun i=>hs.getD i nS2))]) (fun g=>g.j ≤ n∧g.sv.oneCell' = true∧g.mv.oneCell' = true) (fun g=>n - g.j) ⟨0,nS,nS⟩ [4,5,7,12,41,42] ⟨Nat.zero_le _,rfl,rfl⟩ ?_
   rintro ⟨i,sv,mv⟩ ⟨hi,hsv,hmv⟩
   dsimp only at hi hsv hmv ⊢
   by_cases hlt:i < n
   ·have hi0:dl.getD i 0 < L.length:=hdb _ (by rw [List.getD_eq_getElem?_getD,List.getElem?_eq_getElem (by omega)];exact List.getElem_mem (by omega))
    have hg1:=hxg i hlt
    have htk:=take_succ' (show i < dl.length by omega) 0
    have hrow:=hrowA _ hi0
    have hs1:=hso _ hi0
    have hf1:=hfo _ hi0
    have htl:(dl.take i).length = i:=by rw [List.length_take];omega
    clear hrowA hso hfo hxg hW hw1 hqF hfg
    obtain ⟨m,hm⟩ : ∃ m,m = dl.getD i 0:=⟨_,rfl⟩
    rw [← hm] at hi0 hg1 htk hrow hs1 hf1
    clear hm
    have hcell:xs4[4 * m]? = some (ss.getD m nS):=row_cell hrow (i:=0) (by decide) rfl
    have hsub:(xs4.drop (4 * m + 1)).take 3 = rrow ((fracs L D).getD m 0) (hs.getD m nS2):=row_sub hrow rfl
    have hra:rcs ((dl.take (i + 1)).map fun i=>(fracs L D).getD i 0) ((dl.take (i + 1)).map fun i=>hs.getD i nS2) = rcs ((dl.take i).map fun i=>(fracs L D).getD i 0) ((dl.take i).map fun i=>hs.getD i nS2) ++ rrow ((fracs L D).getD m 0) (hs.getD m nS2):=by
     rw [htk,List.map_append,List.map_append,rcs_app (by simp),List.map_singleton,List.map_singleton,rcs_one]
    have hsa:((dl.take (i + 1)).map fun i=>ss.getD i nS) = ((dl.take i).map fun i=>ss.getD i nS) ++ [ss.getD m nS]:=by rw [htk,List.map_append];rfl
    have hsal:((dl.take i).map fun i=>ss.getD i nS).length ≤ 12:=by rw [List.length_map];omega
    generalize ((dl.take i).map fun i=>ss.getD i nS) = sl at *
    generalize rcs ((dl.take i).map fun i=>(fracs L D).getD i 0) ((dl.take i).map fun i=>hs.getD i nS2) = rl at *
    generalize hs.getD m nS2 = h1 at *
    generalize (fracs L D).getD m 0 = q1 at *
    generalize ss.getD m nS = s1 at *
    obtain ⟨hn1,hd1⟩:=h1
    dsimp only at hf1
    repeat' first|refine lie hg1 ?_|(refine wo ?_;first|(refine ao ?_;first|refine oa ?_)|refine oa ?_|refine ixmn ?_)|(refine gc ?_;first|(refine ci (fun hB=>?_) (fun hB=>?_) <;> try (exfalso;omega)))|refine sq ?_|refine rg ?_|refine xc ?_|refine nl ?_|refine sk ?_|refine bk ?_
    refine rs (fun w=>w.heap[c4]? = some (.cells [lv].toArray TSm (0,0))∧SlW w lv L.length xs4) ?_ (fun w hw=>⟨lpt_at (b:=c4) (cs:=[lv]) (T:=TSm) memA hw,has_wf memA hw⟩)
    refine kra 0 ?_
    refine krl 1 (cs:=[lv]) (fun w h=>h.1) ?_
    refine kra 2 ?_
    refine kr 3 (v:=.pointer (some (adr lv (4 * m)))) (fun w h=>R_idxW (E:=env) (i:=(m:Int)) rfl rfl rfl rfl h.2 ⟨by omega,by omega⟩) ?_
    refine kr 4 (v:=.pointer (some (adr lv (4 * m + 0)))) (fun w h=>R_fldW (E:=env) (m:=4 * m) (fld:=⟨_,_,0,_,_,_,_⟩) rfl rfl rfl rfl rfl) ?_
    refine kr 5 (v:=s1) (fun w h=>R_load (E:=env) rfl rfl rfl (SlW.cell h.2 hcell)) ?_
    refine kra 8 ?_
    refine krl 9 (cs:=[lv]) (fun w h=>h.1) ?_
    refine kra 10 ?_
    refine kr 11 (v:=.pointer (some (adr lv (4 * m)))) (fun w h=>R_idxW (E:=env) (i:=(m:Int)) rfl rfl rfl rfl h.2 ⟨by omega,by omega⟩) ?_
    refine kr 12 (v:=.pointer (some (adr lv (4 * m + 1)))) (fun w h=>R_fldW (E:=env) (m:=4 * m) (fld:=⟨_,_,1,_,_,_,_⟩) rfl rfl rfl rfl rfl) ?_
    refine kr 13 (v:=.agg (rrow q1 (hn1,hd1)).toArray) (fun w h=>R_loadW (E:=env) rfl rfl rfl rfl h.2 hsub rfl) ?_
    refine t2 6 14 ?_ ?_
    ·refine sli (vs:=[s1]) (fun g1=>?_) (h1:=one_cons hs1 one_nil)
     refine nl ?_
     refine te (fun w hw=>⟨lpt_at (b:=c4) (cs:=[lv]) (T:=TSm) memA hw,has_wf memA hw⟩) ?_
     refine t2 7 14 ?_ ?_
     ·refine ap (xs:=sl) (news:=[s1]) (fun o1=>?_) (h1:=one_cons hs1 one_nil)
      refine TO.one (v:=o1) (xs:=sl ++ [s1]) fun ho1=>?_
      refine nl ?_
      refine te (fun w hw=>⟨lpt_at (b:=c4) (cs:=[lv]) (T:=TSm) memA hw,has_wf memA hw⟩) ?_
      refine t1 14 ?_
      refine slws (sz:=3) (xs:=rrow q1 (hn1,hd1)) (fun g2=>?_)
      refine nl ?_
      refine te (fun w hw=>⟨lpt_at (b:=c4) (cs:=[lv]) (T:=TSm) memA hw,has_wf memA hw⟩) ?_
      refine t1 15 ?_
      refine apw (sz:=3) (M:=1) (N:=i) (xs:=rl) (ys:=rrow q1 (hn1,hd1)) (by decide) rfl (one_cons rfl (one_cons hf1.1 (one_cons hf1.2 one_nil))) (fun o2 ho2=>?_) (hu:=has_oww memA)
      refine nl ?_
      refine te (fun w hw=>⟨lpt_at (b:=c4) (cs:=[lv]) (T:=TSm) memA hw,has_wf memA hw⟩) ?_
      refine kra 16 ?_
      refine kra 17 ?_
      refine t0 ?_
      repeat' first|(refine wo ?_;first|(refine ao ?_;first|refine aw ?_)|refine oa ?_)|refine rg ?_|refine xc ?_|refine nl ?_|refine xb ?_
      exact lp ⟨i + 1,o1,o2⟩ ⟨hlt,ho1,ho2⟩ (hf:=by dsimp only;rw [hsa,hra];exact fitA)
     ·refine slws (sz:=3) (xs:=rrow q1 (hn1,hd1)) (fun g2=>?_)
      refine nl ?_
      refine te (fun w hw=>⟨lpt_at (b:=c4) (cs:=[lv]) (T:=TSm) memA hw,has_wf memA hw⟩) ?_
      refine t1 7 ?_
      refine ap (xs:=sl) (news:=[s1]) (fun o1=>?_) (h1:=one_cons hs1 one_nil)
      refine TO.one (v:=o1) (xs:=sl ++ [s1]) fun ho1=>?_
      refine nl ?_
      refine te (fun w hw=>⟨lpt_at (b:=c4) (cs:=[lv]) (T:=TSm) memA hw,has_wf memA hw⟩) ?_
      refine t1 15 ?_
      refine apw (sz:=3) (M:=1) (N:=i) (xs:=rl) (ys:=rrow q1 (hn1,hd1)) (by decide) rfl (one_cons rfl (one_cons hf1.1 (one_cons hf1.2 one_nil))) (fun o2 ho2=>?_) (hu:=has_oww memA)
      refine nl ?_
      refine te (fun w hw=>⟨lpt_at (b:=c4) (cs:=[lv]) (T:=TSm) memA hw,has_wf memA hw⟩) ?_
      refine kra 16 ?_
      refine kra 17 ?_
      refine t0 ?_
      repeat' first|(refine wo ?_;first|(refine ao ?_;first|refine aw ?_)|refine oa ?_)|refine rg ?_|refine xc ?_|refine nl ?_|refine xb ?_
      exact lp ⟨i + 1,o1,o2⟩ ⟨hlt,ho1,ho2⟩ (hf:=by dsimp only;rw [hsa,hra];exact fitA)
    ·refine slws (sz:=3) (xs:=rrow q1 (hn1,hd1)) (fun g2=>?_)
     refine nl ?_
     refine te (fun w hw=>⟨lpt_at (b:=c4) (cs:=[lv]) (T:=TSm) memA hw,has_wf memA hw⟩) ?_
     refine t1 6 ?_
     refine sli (vs:=[s1]) (fun g1=>?_) (h1:=one_cons hs1 one_nil)
     refine nl ?_
     refine te (fun w hw=>⟨lpt_at (b:=c4) (cs:=[lv]) (T:=TSm) memA hw,has_wf memA hw⟩) ?_
     refine t1 7 ?_
     refine ap (xs:=sl) (news:=[s1]) (fun o1=>?_) (h1:=one_cons hs1 one_nil)
     refine TO.one (v:=o1) (xs:=sl ++ [s1]) fun ho1=>?_
     refine nl ?_
     refine te (fun w hw=>⟨lpt_at (b:=c4) (cs:=[lv]) (T:=TSm) memA hw,has_wf memA hw⟩) ?_
     refine t1 15 ?_
     refine apw (sz:=3) (M:=1) (N:=i) (xs:=rl) (ys:=rrow q1 (hn1,hd1)) (by decide) rfl (one_cons rfl (one_cons hf1.1 (one_cons hf1.2 one_nil))) (fun o2 ho2=>?_) (hu:=has_oww memA)
     refine nl ?_
     refine te (fun w hw=>⟨lpt_at (b:=c4) (cs:=[lv]) (T:=TSm) memA hw,has_wf memA hw⟩) ?_
     refine kra 16 ?_
     refine kra 17 ?_
     refine t0 ?_
     repeat' first|(refine wo ?_;first|(refine ao ?_;first|refine aw ?_)|refine oa ?_)|refine rg ?_|refine xc ?_|refine nl ?_|refine xb ?_
     exact lp ⟨i + 1,o1,o2⟩ ⟨hlt,ho1,ho2⟩ (hf:=by dsimp only;rw [hsa,hra];exact fitA)
   ·obtain rfl:i = n:=by omega
    rw [List.take_of_length_le (show dl.length ≤ i by omega)]
    have hsel:selS L dl = dl.map fun i=>(L.map (·.1)).getD i []:=by
     unfold selS
     exact List.map_congr_left fun a ha=>(fst_get (hdb a ha)).symm
    have hqs:(dl.map fun i=>(fracs L D).getD i 0) = dl.map fun i=>mkRat (((L.getD i ([],0)).2:Nat):Int) D:=List.map_congr_left fun a ha=>hfg a (hdb a ha)
    have hprod:(dl.map fun i=>(fracs L D).getD i 0).foldl (· * ·) 1 = mkRat ((prdW L dl:Nat):Int) (D ^ i):=by rw [hqs,prod_mk hD0,hdn]
    have hMul:=fun o=>FMul_tr o (dl.map fun i=>(fracs L D).getD i 0) (dl.map fun i=>hs.getD i nS2) (by simp) (fun a ha=>by
     have ha':a < dl.length:=by simpa using ha
     rw [show (dl.map fun i=>(fracs L D).getD i 0).getD a 0 = (fracs L D).getD (dl.getD a 0) 0 by simp [List.getD_eq_getElem?_getD,ha']]
     exact hqF _ (hdb _ (by rw [List.getD_eq_getElem?_getD,List.getElem?_eq_getElem ha'];exact List.getElem_mem ha'))) (fun a ha=>by
     have ha':a < dl.length:=by simpa using ha
     rw [hqs,← List.map_take,prod_mk hD0,List.length_take,Nat.min_eq_left (by omega)]
     have hpl:=prdW_le hwb (dl.take a)
     rw [List.length_take,Nat.min_eq_left (by omega)] at hpl
     exact FB_pow hD0 hD (by omega) (by omega))
    rw [List.length_map,hdn,hprod] at hMul
    have hFt:FB (mkRat ((prdW L dl:Nat):Int) (D ^ i)) 8589934592:=by
     have hpl:=prdW_le hwb dl
     rw [hdn] at hpl
     exact FB_pow hD0 hD (by omega) (by omega)
    have hWs:=hW sv dl hdn hdb
    have hAdd:=fun v1 v2 v3 v4 h1 h2 h3 h4=>sumAdd_tr c10 (ac j) (mkRat ((prdW L dl:Nat):Int) (D ^ i)) v1 v2 v3 v4 h1 h2 h3 h4 hFj hFt
    have hpk:∀ F,velg I ss (L.map (·.1)) ∈ F→Has F (vels (dl.map fun i=>ss.getD i nS) (selS L dl)):=fun F h=>by
     rw [hsel];exact has_velsI (has_pick (has_velg h) dl fun a ha=>by simpa using hdb a ha)
    have hpf:∀ F,vfr hs (fracs L D) ∈ F→Has F (vfr (dl.map fun i=>hs.getD i nS2) (dl.map fun i=>(fracs L D).getD i 0)):=fun F h=>has_fpick (has_velg h) (by rw [hfl];exact hhs) dl fun a ha=>by rw [hfl];exact hdb a ha
    unfold FQ2 at hMul
    unfold tupN at hSj
    clear hrowA hso hfo hxg hW hw1 hqF hfg hsel hqs hprod hwb hFj hFt hD
    generalize selS L dl = sl at *
    generalize (dl.map fun i=>ss.getD i nS) = s1 at *
    generalize (dl.map fun i=>hs.getD i nS2) = f1 at *
    generalize (dl.map fun i=>(fracs L D).getD i 0) = f2 at *
    by_cases hwt:W sl = true
    ·rw [hwt] at hWs
     rw [if_pos hwt] at hSj
     generalize mkRat ((prdW L dl:Nat):Int) (D ^ i) = q1 at *
     repeat' first|(refine gca ?_;first|(refine ca (hMul mv) ?_ (hp:=has1 (has_oww memA) (has1 (hpf _ memA) has0));rintro _ _ ⟨mn,md,rfl,hmn,hmd,rfl⟩))|(refine cav (cap:=#[]) (vs:=[I k,sv]) hWs ?_ (hp:=has1 hasA (has1 (hpk _ memA) has0));rintro _ _ ⟨rfl,rfl⟩)|refine al fun c18=>?_|refine srz ?_ (hj:=Nat.le_of_ble_eq_true rfl)|refine lda ?_|(refine cav (cap:=#[ptr c10]) (vs:=[rv q1 mn md]) (hAdd vn vd mn md hvn hvd hmn hmd) ?_;rintro _ _ ⟨n1,n2,rfl,hn1,hn2,rfl⟩)|(refine wo ?_;first|(refine ao ?_;first|refine oa ?_)|refine oa ?_|refine ldl ?_)|(refine gc ?_;first|refine ct ?_|(refine ci (fun hB=>?_) (fun hB=>?_) <;> try (exfalso;omega)))|refine sq ?_|refine rg ?_|refine xc ?_|refine nl ?_|refine xe ?_|refine xb ?_
     rw [hSj]
     exact yn ⟨⟨j + 1,n1,n2⟩,rfl,.inl ⟨rfl,rfl,hn1,hn2⟩⟩
    ·have hwf:W sl = false:=by simpa using hwt
     rw [hwf] at hWs
     rw [if_neg hwt,show mkRat ((0:Nat):Int) (D ^ i) = 0 by simp,Rat.add_zero] at hSj
     rw [hSj]
     repeat' first|(refine cav (cap:=#[]) (vs:=[I k,sv]) hWs ?_ (hp:=has1 hasA (has1 (hpk _ memA) has0));rintro _ _ ⟨rfl,rfl⟩)|(refine wo ?_;first|(refine ao ?_;first|refine oa ?_)|refine oa ?_|refine ldl ?_)|(refine gc ?_;first|refine cf ?_|(refine ci (fun hB=>?_) (fun hB=>?_) <;> try (exfalso;omega)))|refine sq ?_|refine rg ?_|refine xc ?_|refine nl ?_|refine sk ?_|refine xe ?_|refine xb ?_
     exact yn ⟨⟨j + 1,vn,vd⟩,rfl,.inl ⟨rfl,rfl,hvn,hvd⟩⟩
  ·rintro _ _ ⟨⟨j,vn,vd⟩,rfl,⟨rfl,g2,g3⟩ | h⟩
   ·exact ⟨_,rfl,.ready,none,_,rfl,by decide,vn,vd,by rw [hM],rfl,g2,g3⟩
   ·exact h.elim
 ·rintro l2 rec Dm pend B' ⟨vn,vd,rfl,rfl,g2,g3⟩
  show TX env _ _ _ _ _ _
  refine TX.im (dfrl_nil _) ?_
  refine TX.im (dfrl_push (D:=Dm) (Ds:=[]) fitA) ?_
  rw [← hM]
  generalize ac M = q at *
  repeat' first|refine lda (cs:=rrow q (vn,vd)) ?_|refine srz ?_|(refine wo ?_;first|refine oa ?_)|refine sq ?_|refine rg ?_|refine xc ?_|refine nl ?_|refine rt ?_|refine xb ?_
  exact mca (Ds:=[Dm]) (cs:=rrow q (vn,vd)) (vs:=rrow q (vn,vd)) (T:=TRt) ⟨vn,vd,rfl,g2,g3,rfl⟩
end Go.Art
namespace Go.Art
open Go Go.Proofs Go.RowKit
theorem bnd_swap {X:Ch} {C:List Ch} {w:World}:Sat [X,Go.Art.bnd C] w ↔ Sat (C ++ [X]) w:=
 ⟨fun h=>bnd_sat.1 (h.perm (List.Perm.swap _ _ _)),fun h=>(bnd_sat.2 h).perm (List.Perm.swap _ _ _)⟩
theorem bnd_wr2 {X:Ch} {C:List Ch} {b:Nat}:wrs [X,Go.Art.bnd C] b ↔ wrs (C ++ [X]) b:=by
 rw [← bnd_wrs]
 constructor
 ·rintro ⟨c,hc,h⟩
  exact ⟨c,by simp only [List.mem_cons,List.not_mem_nil,or_false] at hc ⊢;exact hc.symm,h⟩
 ·rintro ⟨c,hc,h⟩
  exact ⟨c,by simp only [List.mem_cons,List.not_mem_nil,or_false] at hc ⊢;exact hc.symm,h⟩
theorem bnd_rd2 {X:Ch} {C:List Ch} {b:Nat}:rds [X,Go.Art.bnd C] b ↔ rds (C ++ [X]) b:=by
 rw [← bnd_rds]
 constructor
 ·rintro ⟨c,hc,h⟩
  exact ⟨c,by simp only [List.mem_cons,List.not_mem_nil,or_false] at hc ⊢;exact hc.symm,h⟩
 ·rintro ⟨c,hc,h⟩
  exact ⟨c,by simp only [List.mem_cons,List.not_mem_nil,or_false] at hc ⊢;exact hc.symm,h⟩
theorem Ty.bndX {P:Program} {l:Nat} {vs:List Value} {X:Ch} {pre C:List Ch} {R:Bool→List Ch→Prop} (h:Ty P l vs pre (C ++ [X]) fun b D=>R b [Go.Art.bnd D]):Ty P l vs pre [X,Go.Art.bnd C] R:=by
 refine ⟨fun w hw=>?_,h.lent⟩
 have h1:Sat (pre ++ (C ++ [X])) w:=by
  obtain ⟨a1,a2,a3⟩:=Sat.app.1 hw
  refine Sat.app.2 ⟨a1,bnd_swap.1 a2,fun a ha c hc=>?_⟩
  rcases List.mem_append.1 hc with hc | hc
  ·have a5:=a3 a ha (Go.Art.bnd C) (by simp)
   exact ⟨fun b hb hf=>a5.1 b hb (bnd_ft.2 ⟨c,hc,hf⟩),fun b hb hf=>a5.2 b ⟨c,hc,hb⟩ hf⟩
  ·rw [List.mem_singleton.1 hc];exact a3 a ha X (List.Mem.head _)
 have e1:∀ {D:List Ch} {b:Nat},wrs [Go.Art.bnd D] b ↔ wrs D b:=fun {D b}=>by have:=bnd_wrs (C:=D) (F:=[]) (b:=b);rwa [List.append_nil] at this
 have e2:∀ {D:List Ch} {b:Nat},rds [Go.Art.bnd D] b ↔ rds D b:=fun {D b}=>by have:=bnd_rds (C:=D) (F:=[]) (b:=b);rwa [List.append_nil] at this
 refine (h.run w h1).mono fun b w' ⟨B,hR,hS,hM,hB⟩=>⟨[Go.Art.bnd B],hR,bnd_sat.2 (by rw [List.append_nil];exact hS),⟨hM.os,hM.tape,hM.output,hM.size,fun k hk hn=>hM.block k hk fun hm=>hn (bnd_wr2.2 hm),fun x hx=>?_,fun x hx=>?_⟩,fun c hc x hx=>?_⟩
 ·rcases hM.wr x (e1.1 hx) with h2 | h2
  ·exact .inl (bnd_wr2.2 h2)
  ·exact .inr h2
 ·rcases hM.rd x (e2.1 hx) with h2 | h2 | h2
  ·exact .inl (bnd_wr2.2 h2)
  ·exact .inr (.inl (bnd_rd2.2 h2))
  ·exact .inr (.inr h2)
 ·obtain rfl:=List.mem_singleton.1 hc
  obtain ⟨y,hy,h2⟩:=hx
  exact hB y hy x h2
structure SeqO (P:Program) (f:FuncId) (cap:Array Value) (T:TypeId) (pre:List Ch) (L:List (List Int)):Prop where
 run:∀ {α:Type} (l:Nat) (J:α→Ch) (pl:α→Nat→Prop) (S:α→Prop) (a0:α),pl a0 0→(∀ a b,¬ (J a).bd b) →
  (∀ a i x,x.oneCell' = true→pl a i→i < L.length→Ty P l [x] [] [own T x (Is (L.getD i [])),J a] fun ok B=>∃ a',B = [J a']∧((ok = true∧pl a' (i + 1))∨(ok = false∧S a'))) →
  Tr P f (yv l :: cap.toList) pre [J a0] fun _ B=>∃ a,B = [J a]∧(pl a L.length∨S a)
 lent:∀ c ∈ pre,∀ b,¬ c.wr b∧¬ c.rd b
open Go Go.Proofs Go.RowKit
attribute [local irreducible] Fit pt own ro vw mpc lpt vels rels mow lrc dfr
attribute [local irreducible] lmp lme mit velg relg bnd owl dfrl
theorem of_tr (v:Value) (k f d:Int) (hv:v.oneCell' = true):Tr Tryz.prog 33 [I k,I f,I d,v] [] [] fun u D=>∃ pd ps pf pk,u = .func (.func 66) #[] #[ptr pd,ptr ps,ptr pf,ptr pk]∧D = [pt ps [v] TLs,pt pd [I d] TLI,pt pf [I f] TLI,pt pk [I k] TLI]:=by
 refine Tr.enter env _ Tryz.func33 (by kernel_rfl) rfl Tryz.ntmps33 rfl (by repeat (first | exact has00 | refine has01 ?_)) fun w0=>?_
 repeat' first|refine bx1 fun b=>?_|(refine wo ?_;first|refine oa ?_)|refine sq ?_|refine rg ?_|refine xc ?_|refine nl ?_|refine rt ?_
 exact r1 ⟨_,_,_,_,rfl,rfl⟩
theorem of1_seq:∀ (d f k:Nat) (b:List Int) (pd ps pf pk:Nat) (v:Value),k ≤ 65536→f ≤ 65537→b.length + d ≤ 100000→v.oneCell' = true→SeqO Tryz.prog 66 #[ptr pd,ptr ps,ptr pf,ptr pk] TLI [lpt pd [I d] TLI,lpt ps [v] TLs,lpt pf [I f] TLI,lpt pk [I k] TLI,vw v (Is b)] (risL d f k b)
 | 0,f,k,b,pd,ps,pf,pk,v,hk,hf,hb,hv=>by
  refine ⟨fun {α} l J pl S a0 h0 hnb hy=>?_,by repeat (first | exact has00 | refine has01 ?_)⟩
  haveI:∀ a,NoB (J a):=fun a=>⟨hnb a⟩
  have h1:=fun x hx=>hy a0 0 x hx h0 (by simp [risL])
  rw [show (risL 0 f k b).getD 0 [] = b from rfl] at h1
  refine Tr.enterM env _ Tryz.func66 (by kernel_rfl) rfl Tryz.ntmps66 rfl (by repeat (first | exact has00 | refine has01 ?_)) fun w0=>?_
  repeat' first|refine bx1 fun q=>?_|(refine wo ?_;first|(refine ao ?_;first|refine oa ?_)|refine ldl ?_)|(refine gc ?_;first|refine ct ?_)|refine sq ?_|refine rg ?_|refine xc ?_|refine nl ?_
  refine rs (fun w=>w.heap[q]? = some (.cells [yv l].toArray TYl (0,0))∧w.heap[ps]? = some (.cells [v].toArray TLs (0,0))) ?_ (fun w hw=>⟨pt_at (b:=q) (cs:=[yv l]) (T:=TYl) memA hw,lpt_at (b:=ps) (cs:=[v]) (T:=TLs) memA hw⟩)
  refine tkl 0 (cs:=[yv l]) (fun w h=>h.1) ?_
  refine tkl 1 (cs:=[v]) (fun w h=>h.2) ?_
  refine t1 2 ?_
  refine ca (ICloneN_tr v b (by omega)) ?_
  rintro x _ ⟨hx,rfl⟩
  refine nl ?_
  refine te (fun w hw=>⟨pt_at (b:=q) (cs:=[yv l]) (T:=TYl) memA hw,lpt_at (b:=ps) (cs:=[v]) (T:=TLs) memA hw⟩) ?_
  refine t1 3 ?_
  refine cy (h1 x hx) ?_
  rintro ok _ ⟨a1,rfl,hs⟩
  refine nl ?_
  refine te (fun w hw=>⟨pt_at (b:=q) (cs:=[yv l]) (T:=TYl) memA hw,lpt_at (b:=ps) (cs:=[v]) (T:=TLs) memA hw⟩) ?_
  refine t0 ?_
  repeat' first|refine xc ?_|refine rt ?_
  refine TX.im (dfrl_nil _) ?_
  exact m0 (Ds:=[]) ⟨a1,rfl,hs.imp (·.2) (·.2)⟩
 | d + 1,f,k,b,pd,ps,pf,pk,v,hk,hf,hb,hv=>by
  refine ⟨fun {α} l J pl S a0 h0 hnb hy=>?_,by repeat (first | exact has00 | refine has01 ?_)⟩
  haveI:∀ a,NoB (J a):=fun a=>⟨hnb a⟩
  refine Tr.enterM env _ Tryz.func66 (by kernel_rfl) rfl Tryz.ntmps66 rfl (by repeat (first | exact has00 | refine has01 ?_)) fun w0=>?_
  repeat' first|refine bx1 fun q=>?_|(refine wo ?_;first|(refine ao ?_;first|refine oa ?_)|refine oa ?_|refine ldl ?_)|(refine gc ?_;first|refine cf ?_)|refine sq ?_|refine rg ?_|refine xc ?_|refine nl ?_|refine sk ?_|refine bk ?_
  refine TC.im (dfrl_nil _) ?_
  refine TC.loopD (ι:=EnG α) (fun g=>g.Ds) (fun g=>[(6,I ((f + g.i:Nat):Int))]) (fun g=>[dfrl g.Ds,pt q [yv l] TYl,J g.a]) (fun g=>g.i ≤ k - d - f∧pl g.a ((List.range g.i).flatMap fun j:Nat=>risL d (f + j + 1) k (b ++ [((f + j:Nat):Int)])).length) (fun g=>k - d - f - g.i) ⟨0,a0,[]⟩ [1,2,3,4,5] ⟨Nat.zero_le _,h0⟩ ?_
  rintro ⟨i,a,Ds⟩ ⟨hi,ha⟩
  dsimp only at hi ha ⊢
  by_cases hlt:i < k - d - f
  ·have ih:=fun pd ps pf pk v hv=>of1_seq d (f + i + 1) k (b ++ [((f + i:Nat):Int)]) pd ps pf pk v hk (by omega) (by simp;omega) hv
   have hg:=fun j (hj:j < (risL d (f + i + 1) k (b ++ [((f + i:Nat):Int)])).length)=>fm_get (fun j:Nat=>risL d (f + j + 1) k (b ++ [((f + j:Nat):Int)])) hlt hj []
   have hE:=fun v hv=>of_tr v (k:Int) ((f + i + 1:Nat):Int) (d:Int) hv
   have hlen:=fm_len (fun j:Nat=>risL d (f + j + 1) k (b ++ [((f + j:Nat):Int)])) i
   have hbl:b.length + 1 ≤ 17592186044416:=by omega
   have hdb:d ≤ 100000:=by omega
   clear hb
   repeat' first|(refine wo ?_;first|(refine ao ?_;first|refine aw ?_|refine oa ?_)|refine oa ?_|refine ldl ?_)|(refine gc ?_;first|(refine ci (fun hB=>?_) (fun hB=>?_) <;> try (exfalso;omega)))|refine sq ?_|refine rg ?_|refine xc ?_|refine nl ?_|refine sk ?_|refine bk ?_
   refine rs (fun w=>w.heap[ps]? = some (.cells [v].toArray TLs (0,0))∧w.heap[pk]? = some (.cells [I k].toArray TLI (0,0))∧w.heap[pd]? = some (.cells [I ((d + 1:Nat):Int)].toArray TLI (0,0))) ?_ (fun w hw=>⟨lpt_at (b:=ps) (cs:=[v]) (T:=TLs) memA hw,lpt_at (b:=pk) (cs:=[I k]) (T:=TLI) memA hw,lpt_at (b:=pd) (cs:=[I ((d + 1:Nat):Int)]) (T:=TLI) memA hw⟩)
   refine tkl 0 (cs:=[I k]) (fun w h=>h.2.1) ?_
   refine tka 1 ?_
   refine tkw 2 ((f + i + 1:Nat):Int) ?_
   refine tkl 3 (cs:=[I ((d + 1:Nat):Int)]) (fun w h=>h.2.2) ?_
   refine tkw 4 (d:Int) ?_
   refine tkl 5 (cs:=[v]) (fun w h=>h.1) ?_
   refine tka 7 ?_
   refine t2 6 8 ?_ ?_
   ·refine ca (Clip_tr v b) ?_
    rintro _ _ ⟨rfl,rfl⟩
    refine nl ?_
    refine te (fun w hw=>⟨lpt_at (b:=ps) (cs:=[v]) (T:=TLs) memA hw,lpt_at (b:=pk) (cs:=[I k]) (T:=TLI) memA hw,lpt_at (b:=pd) (cs:=[I ((d + 1:Nat):Int)]) (T:=TLI) memA hw⟩) ?_
    refine t1 8 ?_
    refine slii [((f + i:Nat):Int)] fun v1=>?_
    refine nl ?_
    refine te (fun w hw=>⟨lpt_at (b:=ps) (cs:=[v]) (T:=TLs) memA hw,lpt_at (b:=pk) (cs:=[I k]) (T:=TLI) memA hw,lpt_at (b:=pd) (cs:=[I ((d + 1:Nat):Int)]) (T:=TLI) memA hw⟩) ?_
    refine t1 9 ?_
    refine apc (v:=v) (l:=b) (news:=[((f + i:Nat):Int)]) (fun v2 hv2=>?_)
    refine nl ?_
    refine te (fun w hw=>⟨lpt_at (b:=ps) (cs:=[v]) (T:=TLs) memA hw,lpt_at (b:=pk) (cs:=[I k]) (T:=TLI) memA hw,lpt_at (b:=pd) (cs:=[I ((d + 1:Nat):Int)]) (T:=TLI) memA hw⟩) ?_
    refine t1 10 ?_
    refine ca (hE v2 hv2) ?_
    rintro _ _ ⟨pd2,ps2,pf2,pk2,rfl,rfl⟩
    refine nl ?_
    refine te (fun w hw=>⟨lpt_at (b:=ps) (cs:=[v]) (T:=TLs) memA hw,lpt_at (b:=pk) (cs:=[I k]) (T:=TLI) memA hw,lpt_at (b:=pd) (cs:=[I ((d + 1:Nat):Int)]) (T:=TLI) memA hw⟩) ?_
    refine t0 ?_
    repeat' first|refine xc ?_|refine bk ?_
    have hS:=@SeqO.run _ _ _ _ _ _ (ih pd2 ps2 pf2 pk2 v2 hv2)
    clear ih hE
    refine TC.range [lpt pd2 [I d] TLI,lpt ps2 [v2] TLs,lpt pf2 [I ((f + i + 1:Nat):Int)] TLI,lpt pk2 [I k] TLI,vw v2 (Is (b ++ [((f + i:Nat):Int)]))] [pt q [yv l] TYl,J a] (fun l2 rec Dm pend B'=>∃ a',B' = [dfr Dm,pt q [yv l] TYl,J a']∧((pend = none∧pl a' ((List.range (i + 1)).flatMap fun j:Nat=>risL d (f + j + 1) k (b ++ [((f + j:Nat):Int)])).length)∨(pend = some .ret∧S a'))) ?_ ?_
    ·intro rec l2 Dm hr
     refine Tr.unb (hS (α:=α × Bool) l2 (fun p=>bnd [lrc l2 rec (bif p.2 then .done else .ready) (bif p.2 then some .ret else none),dfr Dm,pt q [yv l] TYl,J p.1]) (fun p j=>p.2 = false∧pl p.1 (((List.range i).flatMap fun j:Nat=>risL d (f + j + 1) k (b ++ [((f + j:Nat):Int)])).length + j)) (fun p=>p.2 = true∧S p.1) (a,false) ⟨rfl,ha⟩ (fun p=>bnd_nob (nb1 (nb1 (nb1 (nb1 nb0))))) ?_) ?_
     ·rintro ⟨a1,s⟩ j x hx ⟨hs1,hpl⟩ hj
      dsimp only at hs1 hpl
      subst hs1
      obtain ⟨hg1,hg2⟩:=hg j hj
      have h2:=hy a1 _ x hx hpl hg1
      rw [show (risL (d + 1) f k b).getD _ [] = (risL d (f + i + 1) k (b ++ [((f + i:Nat):Int)])).getD j [] from hg2] at h2
      refine Ty.bndX ?_
      generalize (risL d (f + i + 1) k (b ++ [((f + i:Nat):Int)])).getD j [] = row at *
      show Ty _ _ _ _ (lrc l2 rec .ready none :: [dfr Dm,pt q [yv l] TYl,J a1,own TLI x (Is row)]) _
      refine Ty.intro env hr (by repeat (first | exact has00 | refine has01 ?_)) fun w1=>?_
      repeat' first|refine xbeg ?_|(refine cy h2 ?_;rintro ok _ ⟨a2,rfl,⟨rfl,h3⟩ | ⟨rfl,h3⟩⟩)|(refine wo ?_;first|refine oa ?_|refine ld ?_)|(refine gc ?_;first|refine ct ?_|refine cf ?_)|refine sq ?_|refine rg ?_|refine xc ?_|refine nl ?_|refine sk ?_|refine bk ?_|refine rt ?_|refine xb ?_
      ·exact yn ⟨(a2,false),rfl,.inl ⟨rfl,rfl,h3⟩⟩
      ·exact yr ⟨(a2,true),rfl,.inr ⟨rfl,rfl,h3⟩⟩
     ·rintro _ _ ⟨⟨a1,s⟩,rfl,⟨hs1,h3⟩ | ⟨hs1,h3⟩⟩
      ·dsimp only at hs1 h3
       subst hs1
       exact ⟨_,rfl,.ready,none,_,rfl,by decide,a1,rfl,.inl ⟨rfl,by rw [hlen];exact h3⟩⟩
      ·dsimp only at hs1 h3
       subst hs1
       exact ⟨_,rfl,.done,some .ret,_,rfl,by decide,a1,rfl,.inr ⟨rfl,h3⟩⟩
    ·rintro l2 rec Dm pend B' ⟨a1,rfl,⟨rfl,h3⟩ | ⟨rfl,h3⟩⟩
     ·show TX env _ _ _ _ _ _
      refine TX.im (dfrl_push (D:=Dm) (Ds:=Ds) fitA) ?_
      repeat' first|(refine wo ?_;first|(refine ao ?_;first|refine aw ?_)|refine oa ?_)|refine rg ?_|refine xc ?_|refine nl ?_|refine xb ?_
      exact lpD ⟨i + 1,a1,Dm :: Ds⟩ ⟨hlt,h3⟩
     ·show TC env _ _ _ _ _ _
      refine TC.im (dfrl_push (D:=Dm) (Ds:=Ds) fitA) ?_
      repeat' first|refine rt ?_
      exact m0 (Ds:=Dm :: Ds) ⟨a1,rfl,.inr h3⟩
   ·refine slii [((f + i:Nat):Int)] fun v1=>?_
    refine nl ?_
    refine te (fun w hw=>⟨lpt_at (b:=ps) (cs:=[v]) (T:=TLs) memA hw,lpt_at (b:=pk) (cs:=[I k]) (T:=TLI) memA hw,lpt_at (b:=pd) (cs:=[I ((d + 1:Nat):Int)]) (T:=TLI) memA hw⟩) ?_
    refine t1 6 ?_
    refine ca (Clip_tr v b) ?_
    rintro _ _ ⟨rfl,rfl⟩
    refine nl ?_
    refine te (fun w hw=>⟨lpt_at (b:=ps) (cs:=[v]) (T:=TLs) memA hw,lpt_at (b:=pk) (cs:=[I k]) (T:=TLI) memA hw,lpt_at (b:=pd) (cs:=[I ((d + 1:Nat):Int)]) (T:=TLI) memA hw⟩) ?_
    refine t1 9 ?_
    refine apc (v:=v) (l:=b) (news:=[((f + i:Nat):Int)]) (fun v2 hv2=>?_)
    refine nl ?_
    refine te (fun w hw=>⟨lpt_at (b:=ps) (cs:=[v]) (T:=TLs) memA hw,lpt_at (b:=pk) (cs:=[I k]) (T:=TLI) memA hw,lpt_at (b:=pd) (cs:=[I ((d + 1:Nat):Int)]) (T:=TLI) memA hw⟩) ?_
    refine t1 10 ?_
    refine ca (hE v2 hv2) ?_
    rintro _ _ ⟨pd2,ps2,pf2,pk2,rfl,rfl⟩
    refine nl ?_
    refine te (fun w hw=>⟨lpt_at (b:=ps) (cs:=[v]) (T:=TLs) memA hw,lpt_at (b:=pk) (cs:=[I k]) (T:=TLI) memA hw,lpt_at (b:=pd) (cs:=[I ((d + 1:Nat):Int)]) (T:=TLI) memA hw⟩) ?_
    refine t0 ?_
    repeat' first|refine xc ?_|refine bk ?_
    have hS:=@SeqO.run _ _ _ _ _ _ (ih pd2 ps2 pf2 pk2 v2 hv2)
    clear ih hE
    refine TC.range [lpt pd2 [I d] TLI,lpt ps2 [v2] TLs,lpt pf2 [I ((f + i + 1:Nat):Int)] TLI,lpt pk2 [I k] TLI,vw v2 (Is (b ++ [((f + i:Nat):Int)]))] [pt q [yv l] TYl,J a] (fun l2 rec Dm pend B'=>∃ a',B' = [dfr Dm,pt q [yv l] TYl,J a']∧((pend = none∧pl a' ((List.range (i + 1)).flatMap fun j:Nat=>risL d (f + j + 1) k (b ++ [((f + j:Nat):Int)])).length)∨(pend = some .ret∧S a'))) ?_ ?_
    ·intro rec l2 Dm hr
     refine Tr.unb (hS (α:=α × Bool) l2 (fun p=>bnd [lrc l2 rec (bif p.2 then .done else .ready) (bif p.2 then some .ret else none),dfr Dm,pt q [yv l] TYl,J p.1]) (fun p j=>p.2 = false∧pl p.1 (((List.range i).flatMap fun j:Nat=>risL d (f + j + 1) k (b ++ [((f + j:Nat):Int)])).length + j)) (fun p=>p.2 = true∧S p.1) (a,false) ⟨rfl,ha⟩ (fun p=>bnd_nob (nb1 (nb1 (nb1 (nb1 nb0))))) ?_) ?_
     ·rintro ⟨a1,s⟩ j x hx ⟨hs1,hpl⟩ hj
      dsimp only at hs1 hpl
      subst hs1
      obtain ⟨hg1,hg2⟩:=hg j hj
      have h2:=hy a1 _ x hx hpl hg1
      rw [show (risL (d + 1) f k b).getD _ [] = (risL d (f + i + 1) k (b ++ [((f + i:Nat):Int)])).getD j [] from hg2] at h2
      refine Ty.bndX ?_
      generalize (risL d (f + i + 1) k (b ++ [((f + i:Nat):Int)])).getD j [] = row at *
      show Ty _ _ _ _ (lrc l2 rec .ready none :: [dfr Dm,pt q [yv l] TYl,J a1,own TLI x (Is row)]) _
      refine Ty.intro env hr (by repeat (first | exact has00 | refine has01 ?_)) fun w1=>?_
      repeat' first|refine xbeg ?_|(refine cy h2 ?_;rintro ok _ ⟨a2,rfl,⟨rfl,h3⟩ | ⟨rfl,h3⟩⟩)|(refine wo ?_;first|refine oa ?_|refine ld ?_)|(refine gc ?_;first|refine ct ?_|refine cf ?_)|refine sq ?_|refine rg ?_|refine xc ?_|refine nl ?_|refine sk ?_|refine bk ?_|refine rt ?_|refine xb ?_
      ·exact yn ⟨(a2,false),rfl,.inl ⟨rfl,rfl,h3⟩⟩
      ·exact yr ⟨(a2,true),rfl,.inr ⟨rfl,rfl,h3⟩⟩
     ·rintro _ _ ⟨⟨a1,s⟩,rfl,⟨hs1,h3⟩ | ⟨hs1,h3⟩⟩
      ·dsimp only at hs1 h3
       subst hs1
       exact ⟨_,rfl,.ready,none,_,rfl,by decide,a1,rfl,.inl ⟨rfl,by rw [hlen];exact h3⟩⟩
      ·dsimp only at hs1 h3
       subst hs1
       exact ⟨_,rfl,.done,some .ret,_,rfl,by decide,a1,rfl,.inr ⟨rfl,h3⟩⟩
    ·rintro l2 rec Dm pend B' ⟨a1,rfl,⟨rfl,h3⟩ | ⟨rfl,h3⟩⟩
     ·show TX env _ _ _ _ _ _
      refine TX.im (dfrl_push (D:=Dm) (Ds:=Ds) fitA) ?_
      repeat' first|(refine wo ?_;first|(refine ao ?_;first|refine aw ?_)|refine oa ?_)|refine rg ?_|refine xc ?_|refine nl ?_|refine xb ?_
      exact lpD ⟨i + 1,a1,Dm :: Ds⟩ ⟨hlt,h3⟩
     ·show TC env _ _ _ _ _ _
      refine TC.im (dfrl_push (D:=Dm) (Ds:=Ds) fitA) ?_
      repeat' first|refine rt ?_
      exact m0 (Ds:=Dm :: Ds) ⟨a1,rfl,.inr h3⟩
  ·obtain rfl:i = k - d - f:=by omega
   repeat' first|(refine wo ?_;first|(refine ao ?_;first|refine aw ?_|refine oa ?_)|refine oa ?_|refine ldl ?_)|(refine gc ?_;first|(refine ci (fun hB=>?_) (fun hB=>?_) <;> try (exfalso;omega)))|refine sq ?_|refine rg ?_|refine xc ?_|refine nl ?_|refine xe ?_
   exact m0e ⟨a,rfl,.inl ha⟩
end Go.Art
namespace Go.Art
open Go Go.Proofs Go.RowKit
theorem nv_cmp_lt {a b:List Nat} (ha:Dg a) {j:Nat} (h:nv (a.drop (j + 1)) = nv (b.drop (j + 1))) (hx:a.getD j 0 < b.getD j 0):nv a < nv b:=by
 refine nv_lt_of ha j ?_
 rw [nv_step a j,nv_step b j,h]
 omega
theorem Dg.snoc {l:List Nat} {x:Nat} (h:Dg l) (hx:x < 18446744073709551616):Dg (l ++ [x]):=h.app (Dg.one hx)
structure NaG where
 i:Nat
 c:Nat
 o:Value
 ys:List Nat
attribute [local irreducible] Fit pt own ro vw mpc lpt vels rels mow lrc dfr
theorem RTrim_tr (v:Value) (l:List Nat) (hd:Dg l) (hl:l.length ≤ 17592186044416):Tr Tryz.prog 107 [v] [vw v (Us l)] [] fun u D=>u.oneCell' = true∧D = [own T64 u (Us (dg (nv l)))]:=by
 refine Tr.enter env _ Tryz.func107 (by kernel_rfl) rfl Tryz.ntmps107 rfl (by repeat (first | exact has00 | refine has01 ?_)) fun w0=>?_
 refine TC.fact (p:=slSub v 0 l.length = v) (fun w hw=>by have:=slSub_all (vw_sl (hw.h (vw v (Us l)) (List.Mem.head _)));rwa [Us_len] at this) fun hv=>?_
 refine TC.lenu (v:=v) (l:=l) fun hlen=>?_
 repeat' first|(refine wo ?_;first|refine oa ?_)|refine sq ?_|refine rg ?_|refine xc ?_|refine nl ?_|refine bk ?_
 refine TC.loop (ι:=Nat × Value) (fun i=>[(0,i.2)]) (fun _=>[]) (fun i=>i.1 ≤ l.length∧i.2 = slSub v 0 i.1∧nv (l.drop i.1) = 0) (fun i=>i.1) (l.length,v) [] ⟨Nat.le_refl _,hv.symm,by simp [nv]⟩ ?_
 rintro ⟨k,u⟩ ⟨h1,h2,h3⟩
 dsimp only at h1 h2 h3 ⊢
 obtain ⟨m,hm⟩ : ∃ m,m = l.take k:=⟨_,rfl⟩
 have hu:Has [vw v (Us l)] (vw u (Us m)):=by rw [h2,hm];exact has_take (has_vw (List.Mem.head _)) h1
 have hkl:m.length = k:=by rw [hm];simp;omega
 have hge:((m.length:Int) - 1).toNat = k - 1:=by omega
 have hT:m.length = 0∨m.getD (((m.length:Int) - 1).toNat) 0 ≠ 0→m = dg (nv l):=fun h=>by
  have ht:Tm (l.take k):=by
   rw [← hm];refine Tm_of (h.imp List.eq_nil_of_length_eq_zero fun h=>?_)
   rwa [hge,← hkl] at h
  rw [hm,← dg_top hd h3,dg_nv (hd.take k) ht]
 have hZ:0 < k→m.getD (((m.length:Int) - 1).toNat) 0 = 0→nv (l.drop (k - 1)) = 0:=fun h0 h=>by
  have:=nv_step l (k - 1)
  rw [show k - 1 + 1 = k by omega,h3,Nat.mul_zero,Nat.add_zero] at this
  refine this.trans (Eq.trans ?_ h)
  rw [hge,hm,List.getD_eq_getElem?_getD,List.getD_eq_getElem?_getD,List.getElem?_take,if_pos (by omega)]
 have hN:∀ m,slSub u 0 m = slSub v 0 m:=fun m=>by rw [h2,slSub_sub]
 refine TC.im (B:=[vw v (Us l)]) (Im.refl _) ?_
 repeat' first|(refine sl0 fun o=>?_)|(refine apu (l:=[]) (news:=m) (fun o=>?_);refine TO.one (v:=o) (xs:=Us ([] ++ m)) fun ho=>?_)|(refine wo ?_;first|(refine ao ?_;first|refine aw ?_|refine oa ?_)|refine lu ?_|refine oa ?_|refine lnm ?_|refine ixm ?_|refine schm ?_|refine gy ?_|refine gn ?_|(refine gsi (fun hB=>?_) (fun hB=>?_) <;> try (exfalso;omega)))|(refine gc ?_;first|refine cf ?_|(refine ci (fun hB=>?_) (fun hB=>?_) <;> try (exfalso;omega)))|refine sq ?_|refine rg ?_|refine xc ?_|refine nl ?_|refine sk ?_|refine bk ?_|refine xe ?_|refine rt ?_|refine xb ?_
 ·exact lp (k - 1,slSub u 0 ((m.length:Int) - 1).toNat) ⟨by dsimp only;omega,by dsimp only;rw [hN,hge],hZ (by omega) (by omega)⟩
 ·rw [← hT (.inr (by omega))]
  exact r1 ⟨ho,rfl⟩
 ·rw [← hT (.inl (by omega))]
  exact r1 ⟨ho,rfl⟩
theorem Rdigit_tr (v:Value) (l:List Nat) (i:Nat):Tr Tryz.prog 151 [v,I i] [vw v (Us l)] [] fun u D=>u = Un (l.getD i 0)∧D = []:=by
 have h0:¬ i < l.length→l.getD i 0 = 0:=fun h=>by rw [List.getD_eq_getElem?_getD,List.getElem?_eq_none (by omega)];rfl
 refine Tr.enter env _ Tryz.func151 (by kernel_rfl) rfl Tryz.ntmps151 rfl (by repeat (first | exact has00 | refine has01 ?_)) fun w0=>?_
 refine TC.lenu (v:=v) (l:=l) fun hlen=>?_
 repeat' first|(refine wo ?_;first|(refine ao ?_;first|refine oa ?_)|refine lu ?_|refine oa ?_|refine lnm ?_|refine ixmn ?_)|(refine gc ?_;first|(refine ci (fun hB=>?_) (fun hB=>?_) <;> try (exfalso;omega)))|refine sq ?_|refine rg ?_|refine xc ?_|refine nl ?_|refine sk ?_|refine rt ?_
 ·exact r1 ⟨rfl,rfl⟩
 ·exact r1 ⟨by rw [h0 (by omega)],rfl⟩
theorem ROf_tr (x:Nat) (hx:x < 18446744073709551616):Tr Tryz.prog 62 [Un x] [] [] fun u D=>u.oneCell' = true∧D = [own T64 u (Us (dg x))]:=by
 have e:nv [x] = x:=by simp [nv]
 have hT:=fun o=>RTrim_tr o [x] (Dg.one hx) (by simp)
 simp only [e] at hT
 refine Tr.enter env _ Tryz.func62 (by kernel_rfl) rfl Tryz.ntmps62 rfl (by repeat (first | exact has00 | refine has01 ?_)) fun w0=>?_
 repeat' first|(refine gca ?_;first|(refine ca (hT o) ?_;rintro o2 _ ⟨ho2,rfl⟩))|(refine slu [x] fun o ho=>?_)|(refine wo ?_;first|refine oa ?_)|refine sq ?_|refine rg ?_|refine xc ?_|refine nl ?_|refine rt ?_
 exact r1 ⟨ho2,rfl⟩
theorem RNCheck_tr (v:Value) (l:List Nat):Tr Tryz.prog 178 [v] [vw v (Us l)] [] fun u D=>u = I (if 0 < l.length∧l.getD (l.length - 1) 0 = 0 then 6 else 0)∧D = []:=by
 have hge:((l.length:Int) - 1).toNat = l.length - 1:=by omega
 rw [← hge]
 refine Tr.enter env _ Tryz.func178 (by kernel_rfl) rfl Tryz.ntmps178 rfl (by repeat (first | exact has00 | refine has01 ?_)) fun w0=>?_
 refine TC.lenu (v:=v) (l:=l) fun hlen=>?_
 repeat' first|(refine wo ?_;first|(refine ao ?_;first|refine aw ?_|refine oa ?_)|refine lu ?_|refine oa ?_|refine lnm ?_|refine ixm ?_|refine gy ?_|refine gn ?_|(refine gsi (fun hB=>?_) (fun hB=>?_) <;> try (exfalso;omega)))|(refine gc ?_;first|refine cf ?_|(refine ci (fun hB=>?_) (fun hB=>?_) <;> try (exfalso;omega)))|refine sq ?_|refine rg ?_|refine xc ?_|refine nl ?_|refine sk ?_|refine rt ?_
 all_goals first
  | exact r1 ⟨by rw [if_pos (by omega)],rfl⟩
  | exact r1 ⟨by rw [if_neg (by omega)],rfl⟩
theorem RCmp_tr (v1 v2:Value) (a b:List Nat) (ha:Dg a) (hb:Dg b):Tr Tryz.prog 213 [v1,v2] [vw v1 (Us a),vw v2 (Us b)] [] fun u D=>u = I (cmpN (nv a) (nv b))∧D = []:=by
 refine Tr.enter env _ Tryz.func213 (by kernel_rfl) rfl Tryz.ntmps213 rfl (by repeat (first | exact has00 | refine has01 ?_)) fun w0=>?_
 refine TC.lenu (v:=v1) (l:=a) fun hla=>?_
 refine TC.lenu (v:=v2) (l:=b) fun hlb=>?_
 repeat' first|refine mxx ?_|(refine wo ?_;first|(refine ao ?_;first|refine aw ?_)|refine oa ?_|refine lnm ?_)|refine sq ?_|refine rg ?_|refine xc ?_|refine nl ?_|refine bk ?_
 refine TC.loop (ι:=Int) (fun k=>[(5,I k)]) (fun _=>[]) (fun k=>-1 ≤ k∧k ≤ 9223372036854775807∧nv (a.drop (k + 1).toNat) = nv (b.drop (k + 1).toNat)) (fun k=>(k + 1).toNat) (max (a.length:Int) b.length - 1) [0,1] ⟨by omega,by omega,?_⟩ ?_
 ·rw [List.drop_eq_nil_of_le (by omega),List.drop_eq_nil_of_le (by omega)]
 rintro k ⟨hk1,hk2,hI⟩
 by_cases hk:0 ≤ k
 ·obtain ⟨j,rfl⟩ : ∃ j:Nat,k = j:=⟨k.toNat,by omega⟩
  rw [show ((j:Int) + 1).toNat = j + 1 by omega] at hI
  have hL:=nv_cmp_lt ha hI
  have hG:=nv_cmp_lt hb hI.symm
  have s1:=nv_step a j
  have s2:=nv_step b j
  rw [hI] at s1
  have hx:=ha.getD j
  have hy:=hb.getD j
  have h1:=Rdigit_tr v1 a j
  have h2:=Rdigit_tr v2 b j
  generalize a.getD j 0 = x at *
  generalize b.getD j 0 = y at *
  repeat' first|(refine gca ?_;first|(refine ca h1 ?_;rintro _ _ ⟨rfl,rfl⟩)|(refine ca h2 ?_;rintro _ _ ⟨rfl,rfl⟩))|(refine wo ?_;first|(refine ao ?_;first|refine aw ?_|refine oa ?_)|refine oa ?_)|(refine gc ?_;first|refine ct ?_|(refine ci (fun hB=>?_) (fun hB=>?_) <;> try (exfalso;omega)))|refine sq ?_|refine rg ?_|refine xc ?_|refine nl ?_|refine sk ?_|refine bk ?_|refine rt ?_|refine xb ?_
  ·exact r1 ⟨by rw [cmpN,if_pos (hL (by omega))],rfl⟩
  ·exact r1 ⟨by have:=hG (by omega);rw [cmpN,if_neg (by omega),if_pos this],rfl⟩
  ·exact lp ((j:Int) - 1) ⟨by omega,by omega,by rw [show ((j:Int) - 1 + 1).toNat = j by omega,s1,s2];omega⟩
 ·obtain rfl:k = -1:=by omega
  repeat' first|(refine wo ?_;first|(refine ao ?_;first|refine oa ?_)|refine oa ?_)|(refine gc ?_;first|refine cf ?_)|refine sq ?_|refine rg ?_|refine xc ?_|refine nl ?_|refine xe ?_|refine rt ?_
  have e:cmpN (nv a) (nv b) = 0:=cmpN_eq.2 (by simpa using hI)
  exact r1 ⟨by rw [e],rfl⟩
theorem RAdd_tr (v1 v2:Value) (a b:List Nat) (ha:Dg a) (hb:Dg b) (hla:a.length ≤ 1099511627776) (hlb:b.length ≤ 1099511627776):Tr Tryz.prog 113 [v1,v2] [vw v1 (Us a),vw v2 (Us b)] [] fun u D=>u.oneCell' = true∧D = [own T64 u (Us (dg (nv a + nv b)))]:=by
 obtain ⟨m,hm⟩ : ∃ m:Nat,m = max a.length b.length:=⟨_,rfl⟩
 refine Tr.enter env _ Tryz.func113 (by kernel_rfl) rfl Tryz.ntmps113 rfl (by repeat (first | exact has00 | refine has01 ?_)) fun w0=>?_
 repeat' first|(refine wo ?_;first|refine oa ?_)|refine sq ?_|refine rg ?_|refine xc ?_|refine nl ?_|refine bk ?_
 refine TC.im (own_nil T64 _) ?_
 refine TC.loop (ι:=NaG) (fun g=>[(7,I g.i),(6,Un g.c),(5,g.o)]) (fun g=>[own T64 g.o (Us g.ys)]) (fun g=>(g.ys.length = g.i∧g.i ≤ m + 1∧g.c ≤ 1)∧Dg g.ys∧nv g.ys + g.c * 18446744073709551616 ^ g.i = nv (a.take g.i) + nv (b.take g.i)) (fun g=>m + 1 - g.i) ⟨0,0,nS,[]⟩ [0,1] ⟨⟨rfl,Nat.zero_le _,Nat.zero_le _⟩,Dg.nil,by simp [nv]⟩ ?_ (hf:=by dsimp only;exact fitA)
 rintro ⟨i,c,o,ys⟩ ⟨⟨h1,h2,hc⟩,hd,hI⟩
 dsimp only at h1 h2 hc hd hI ⊢
 by_cases hi:i < m + 1
 ·have hx:=ha.getD i
  have hy:=hb.getD i
  have hD1:=Rdigit_tr v1 a i
  have hD2:=Rdigit_tr v2 b i
  have hs:=fun (d e:Nat) (h:d + 18446744073709551616 * e = a.getD i 0 + b.getD i 0 + c)=>add_step (p:=18446744073709551616 ^ i) hI h
  have hta:=nv_take_s a i
  have htb:=nv_take_s b i
  have pk:∀ (d e:Nat),d + 18446744073709551616 * e = a.getD i 0 + b.getD i 0 + c→nv (ys ++ [d]) + e * 18446744073709551616 ^ (i + 1) = nv (a.take (i + 1)) + nv (b.take (i + 1)):=fun d e h=>by
   rw [nv_snoc,h1,hta,htb,Nat.pow_succ];exact hs d e h
  clear hs hta htb hI
  generalize a.getD i 0 = x at *
  generalize b.getD i 0 = y at *
  have pk2:Unit→∀ (d e:Nat),d + 18446744073709551616 * e = x + y + c→nv (ys ++ [d]) + e * 18446744073709551616 ^ (i + 1) = nv (a.take (i + 1)) + nv (b.take (i + 1)):=fun _=>pk
  clear pk
  repeat' first|(refine gca ?_;first|(refine ca hD1 ?_;rintro _ _ ⟨rfl,rfl⟩)|(refine ca hD2 ?_;rintro _ _ ⟨rfl,rfl⟩))|refine mxx ?_|(refine slu [_] fun q hq=>?_)|(refine apu (v:=o) (l:=ys) (news:=[_]) (fun o2=>?_))|(refine wo ?_;first|(refine ao ?_;first|(refine nao ?_;first|refine nad ?_|refine nadm ?_)|(refine naou ?_;first|refine nad ?_|refine nadm ?_)|refine aw ?_|refine oa ?_)|refine oa ?_|refine lnm ?_)|(refine gc ?_;first|(refine ci (fun hB=>?_) (fun hB=>?_) <;> try (exfalso;omega)))|refine sq ?_|refine rg ?_|refine xc ?_|refine nl ?_|refine sk ?_|refine bk ?_|refine xb ?_
  ·exact lp ⟨i + 1,1,o2,ys ++ [(x + y) % 18446744073709551616 + c]⟩ ⟨⟨by simp [h1],hi,by dsimp only;omega⟩,hd.snoc (by omega),pk2 () _ 1 (by omega)⟩
  ·exact lp ⟨i + 1,1,o2,ys ++ [((x + y) % 18446744073709551616 + c) % 18446744073709551616]⟩ ⟨⟨by simp [h1],hi,by dsimp only;omega⟩,hd.snoc (by omega),pk2 () _ 1 (by omega)⟩
  ·exact lp ⟨i + 1,0,o2,ys ++ [((x + y) % 18446744073709551616 + c) % 18446744073709551616]⟩ ⟨⟨by simp [h1],hi,by dsimp only;omega⟩,hd.snoc (by omega),pk2 () _ 0 (by omega)⟩
 ·obtain rfl:i = m + 1:=by omega
  have hn:nv ys = nv a + nv b:=by
   rw [nv_take_all (by omega),nv_take_all (by omega)] at hI
   have b1:=nv_lt ha
   have b2:=nv_lt hb
   have b3:18446744073709551616 ^ a.length ≤ 18446744073709551616 ^ m:=Nat.pow_le_pow_right (by decide) (by omega)
   have b4:18446744073709551616 ^ b.length ≤ 18446744073709551616 ^ m:=Nat.pow_le_pow_right (by decide) (by omega)
   rw [Nat.pow_succ] at hI
   rcases Nat.eq_zero_or_pos c with h0 | h0
   ·subst h0;omega
   ·obtain rfl:c = 1:=by omega
    omega
  have hT:=RTrim_tr o ys hd (by omega)
  rw [hn] at hT
  clear hI hn
  repeat' first|(refine gca ?_;first|(refine ca hT ?_;rintro o2 _ ⟨ho2,rfl⟩))|refine mxx ?_|(refine wo ?_;first|(refine ao ?_;first|refine oa ?_)|refine oa ?_|refine lnm ?_)|(refine gc ?_;first|(refine ci (fun hB=>?_) (fun hB=>?_) <;> try (exfalso;omega)))|refine sq ?_|refine rg ?_|refine xc ?_|refine nl ?_|refine xe ?_|refine rt ?_
  exact r1 ⟨ho2,rfl⟩
end Go.Art
namespace Go.Art
open Go Go.Proofs Go.RowKit
theorem nv_drop_div {l:List Nat} (h:Dg l) (q:Nat):nv (l.drop q) = nv l / 18446744073709551616 ^ q:=by
 have h1:=nv_cut l q
 have h2:=nv_low h q
 have h0:0 < 18446744073709551616 ^ q:=Nat.pow_pos (by decide)
 rw [h1,Nat.add_mul_div_left _ _ h0,Nat.div_eq_of_lt h2,Nat.zero_add]
theorem pow_W (q:Nat):18446744073709551616 ^ q = 2 ^ (64 * q):=by rw [Nat.pow_mul]
def Bt (n b:Nat):Prop:=n < 2 ^ b∧(b = 0∨2 ^ (b - 1) ≤ n)
theorem both_val {a b c d:Nat} (ha:a < 4294967296) (hb:b < 4294967296) (hc:c < 4294967296) (hd:d < 4294967296) :
  (b * d < 18446744073709551616∧a * d + b * d / 4294967296 < 18446744073709551616∧b * c + (a * d + b * d / 4294967296) % 4294967296 < 18446744073709551616) ∧
  (a * c + (a * d + b * d / 4294967296) / 4294967296 + (b * c + (a * d + b * d / 4294967296) % 4294967296) / 4294967296) * 18446744073709551616 + ((b * c + (a * d + b * d / 4294967296) % 4294967296) % 4294967296 * 4294967296 + b * d % 4294967296) = (a * 4294967296 + b) * (c * 4294967296 + d):=by
 have e:(a * 4294967296 + b) * (c * 4294967296 + d) = a * c * 18446744073709551616 + (a * d + b * c) * 4294967296 + b * d:=by
  rw [Nat.add_mul,Nat.mul_add,Nat.mul_add]
  have:a * 4294967296 * (c * 4294967296) = a * c * 18446744073709551616:=by rw [Nat.mul_mul_mul_comm]
  have:a * 4294967296 * d = a * d * 4294967296:=by ac_rfl
  have:b * (c * 4294967296) = b * c * 4294967296:=by ac_rfl
  omega
 have h1:a * d ≤ 4294967295 * 4294967295:=Nat.mul_le_mul (by omega) (by omega)
 have h2:b * c ≤ 4294967295 * 4294967295:=Nat.mul_le_mul (by omega) (by omega)
 have h3:b * d ≤ 4294967295 * 4294967295:=Nat.mul_le_mul (by omega) (by omega)
 rw [e]
 generalize a * c = p at *
 generalize a * d = q at *
 generalize b * c = r at *
 generalize b * d = s at *
 omega
attribute [local irreducible] Fit pt own ro vw mpc lpt vels rels mow lrc dfr
theorem RSub_tr (v1 v2:Value) (a b:List Nat) (ha:Dg a) (hb:Dg b) (hla:a.length ≤ 1099511627776) (hle:nv b ≤ nv a):Tr Tryz.prog 232 [v1,v2] [vw v1 (Us a),vw v2 (Us b)] [] fun u D=>∃ o,u = tup2 o (I 0)∧o.oneCell' = true∧D = [own T64 o (Us (dg (nv a - nv b)))]:=by
 have hC:=RCmp_tr v1 v2 a b ha hb
 have hcm:¬ cmpN (nv a) (nv b) < 0:=by rw [cmpN_lt];omega
 obtain ⟨cm,hc⟩ : ∃ cm,cm = cmpN (nv a) (nv b):=⟨_,rfl⟩
 rw [← hc] at hC hcm
 clear hc
 refine Tr.enter env _ Tryz.func232 (by kernel_rfl) rfl Tryz.ntmps232 rfl (by repeat (first | exact has00 | refine has01 ?_)) fun w0=>?_
 repeat' first|(refine gca ?_;first|(refine ca hC ?_;rintro _ _ ⟨rfl,rfl⟩))|(refine wo ?_;first|(refine ao ?_;first|refine oa ?_)|refine oa ?_)|(refine gc ?_;first|(refine ci (fun hB=>?_) (fun hB=>?_) <;> try (exfalso;omega)))|refine sq ?_|refine rg ?_|refine xc ?_|refine nl ?_|refine sk ?_|refine bk ?_
 refine TC.im (own_nil T64 _) ?_
 refine TC.loop (ι:=NaG) (fun g=>[(8,I g.i),(7,Un g.c),(6,g.o)]) (fun g=>[own T64 g.o (Us g.ys)]) (fun g=>(g.ys.length = g.i∧g.i ≤ a.length∧g.c ≤ 1)∧Dg g.ys∧nv g.ys + nv (b.take g.i) = nv (a.take g.i) + g.c * 18446744073709551616 ^ g.i) (fun g=>a.length - g.i) ⟨0,0,nS,[]⟩ [0,1] ⟨⟨rfl,Nat.zero_le _,Nat.zero_le _⟩,Dg.nil,by simp [nv]⟩ ?_ (hf:=by dsimp only;exact fitA)
 rintro ⟨i,c,o,ys⟩ ⟨⟨h1,h2,hc⟩,hd,hI⟩
 dsimp only at h1 h2 hc hd hI ⊢
 by_cases hi:i < a.length
 ·have hx:=ha.getD i
  have hy:=hb.getD i
  have hD2:=Rdigit_tr v2 b i
  have hs:=fun (d e:Nat) (h:d + b.getD i 0 + c = a.getD i 0 + e * 18446744073709551616)=>sub_step (p:=18446744073709551616 ^ i) hI h
  have hta:=nv_take_s a i
  have htb:=nv_take_s b i
  have pk:∀ (d e:Nat),d + b.getD i 0 + c = a.getD i 0 + e * 18446744073709551616→nv (ys ++ [d]) + nv (b.take (i + 1)) = nv (a.take (i + 1)) + e * 18446744073709551616 ^ (i + 1):=fun d e h=>by
   rw [nv_snoc,h1,hta,htb,Nat.pow_succ];exact hs d e h
  clear hs hta htb hI
  generalize b.getD i 0 = y at *
  have pk2:Unit→∀ (d e:Nat),d + y + c = a.getD i 0 + e * 18446744073709551616→nv (ys ++ [d]) + nv (b.take (i + 1)) = nv (a.take (i + 1)) + e * 18446744073709551616 ^ (i + 1):=fun _=>pk
  clear pk
  repeat' first|(refine qca hD2 (fun _ _ h=>h) ?_)|(refine slu [_] fun q hq=>?_)|(refine apu (v:=o) (l:=ys) (news:=[_]) (fun o2=>?_))|(refine wo ?_;first|(refine ao ?_;first|(refine nao ?_;first|refine nsb ?_|refine nsbm ?_)|(refine naou ?_;first|refine nsb ?_|refine nsbm ?_)|refine aw ?_|refine oa ?_)|refine oa ?_|refine lnm ?_)|(refine gc ?_;first|(refine ci (fun hB=>?_) (fun hB=>?_) <;> try (exfalso;omega)))|refine sq ?_|refine rg ?_|refine xc ?_|refine nl ?_|refine sk ?_|refine bk ?_|refine xb ?_|refine rq ?_|refine nq ?_|(refine wq ?_;first|refine qlu ?_|refine qa ?_|refine qixmn ?_)
  ·exact lp ⟨i + 1,1,o2,ys ++ [(a.getD i 0 + 18446744073709551616 - y) % 18446744073709551616 - c]⟩ ⟨⟨by simp [h1],hi,by dsimp only;omega⟩,hd.snoc (by omega),pk2 () _ 1 (by omega)⟩
  ·exact lp ⟨i + 1,1,o2,ys ++ [((a.getD i 0 + 18446744073709551616 - y) % 18446744073709551616 + 18446744073709551616 - c) % 18446744073709551616]⟩ ⟨⟨by simp [h1],hi,by dsimp only;omega⟩,hd.snoc (by omega),pk2 () _ 1 (by omega)⟩
  ·exact lp ⟨i + 1,0,o2,ys ++ [((a.getD i 0 + 18446744073709551616 - y) % 18446744073709551616 + 18446744073709551616 - c) % 18446744073709551616]⟩ ⟨⟨by simp [h1],hi,by dsimp only;omega⟩,hd.snoc (by omega),pk2 () _ 0 (by omega)⟩
 ·obtain rfl:i = a.length:=by omega
  have hn:nv ys = nv a - nv b:=by
   rw [List.take_length] at hI
   have b1:=nv_lt ha
   have b2:=nv_lt hd
   rw [h1] at b2
   have b3:nv (b.take a.length) = nv b:=by
    have h5:=nv_cut b a.length
    rcases Nat.eq_zero_or_pos (nv (b.drop a.length)) with h6 | h6
    ·rw [h6] at h5;omega
    ·have h7:18446744073709551616 ^ a.length * 1 ≤ 18446744073709551616 ^ a.length * nv (b.drop a.length):=Nat.mul_le_mul_left _ h6
     omega
   rw [b3] at hI
   rcases Nat.eq_zero_or_pos c with h0 | h0
   ·subst h0;omega
   ·obtain rfl:c = 1:=by omega
    omega
  have hT:=RTrim_tr o ys hd (by omega)
  rw [hn] at hT
  clear hI hn
  repeat' first|(refine gca ?_;first|(refine ca hT ?_;rintro o2 _ ⟨ho2,rfl⟩))|(refine wo ?_;first|(refine ao ?_;first|refine oa ?_)|refine oa ?_|refine lnm ?_)|(refine gc ?_;first|(refine ci (fun hB=>?_) (fun hB=>?_) <;> try (exfalso;omega)))|refine sq ?_|refine rg ?_|refine xc ?_|refine nl ?_|refine xe ?_|refine rt ?_
  exact r2 ⟨o2,rfl,ho2,rfl⟩
theorem RLen_tr (v:Value) (l:List Nat) (hd:Dg l) (hl:l.length ≤ 1099511627776):Tr Tryz.prog 209 [v] [vw v (Us l)] [] fun u D=>∃ b:Nat,u = I b∧Bt (nv l) b∧b ≤ 64 * l.length∧D = []:=by
 have hT:=RTrim_tr v l hd (by omega)
 have hll:=dg_len_le hd
 obtain ⟨n,hn⟩ : ∃ n,n = nv l:=⟨_,rfl⟩
 rw [← hn] at hT hll ⊢
 by_cases h0:n = 0
 ·subst h0
  have hlen:(dg 0).length = 0:=by rw [dg_zero];rfl
  refine Tr.enter env _ Tryz.func209 (by kernel_rfl) rfl Tryz.ntmps209 rfl (by repeat (first | exact has00 | refine has01 ?_)) fun w0=>?_
  repeat' first|(refine gca ?_;first|(refine ca hT ?_;rintro o _ ⟨ho,rfl⟩))|(refine wo ?_;first|(refine ao ?_;first|refine oa ?_)|refine oa ?_|refine lnm ?_)|(refine gc ?_;first|(refine ci (fun hB=>?_) (fun hB=>?_) <;> try (exfalso;omega)))|refine sq ?_|refine rg ?_|refine xc ?_|refine nl ?_|refine rt ?_
  exact r1 ⟨0,rfl,⟨by decide,.inl rfl⟩,Nat.zero_le _,rfl⟩
 have hp:=dg_len_pos h0
 obtain ⟨tb1,tb2⟩:=top_bounds h0
 have htd:(dg n).getD ((dg n).length - 1) 0 ≠ 0:=(Tm_dg n).top (by omega)
 have htl:(dg n).getD ((dg n).length - 1) 0 < 18446744073709551616:=(Dg_dg n).getD _
 have hge:(((dg n).length:Int) - 1).toNat = (dg n).length - 1:=by omega
 obtain ⟨m,hm⟩ : ∃ m,m = (dg n).length - 1:=⟨_,rfl⟩
 have hm2:((dg n).length:Int) - 1 = m:=by omega
 rw [← hm] at tb1 tb2 htd htl hge
 obtain ⟨t,ht⟩ : ∃ t,(dg n).getD (((dg n).length:Int) - 1).toNat 0 = t:=⟨_,rfl⟩
 have ht2:(dg n).getD m 0 = t:=by rw [← ht,hge]
 rw [ht2] at tb1 tb2 htd htl
 have pk:Unit→∀ b,Bt t b→0 < b→b ≤ 64→Bt n (64 * m + b)∧64 * m + b ≤ 64 * l.length:=fun _ b hb h1 h2=>by
  obtain ⟨g1,g2⟩:=hb
  refine ⟨⟨?_,.inr ?_⟩,by omega⟩
  ·rw [Nat.pow_add,← pow_W,Nat.mul_comm]
   exact Nat.lt_of_lt_of_le tb2 (Nat.mul_le_mul_right _ g1)
  ·rw [show 64 * m + b - 1 = 64 * m + (b - 1) by omega,Nat.pow_add,← pow_W,Nat.mul_comm]
   exact Nat.le_trans (Nat.mul_le_mul_right _ (g2.resolve_left (by omega))) tb1
 clear tb1 tb2 ht2
 refine Tr.enter env _ Tryz.func209 (by kernel_rfl) rfl Tryz.ntmps209 rfl (by repeat (first | exact has00 | refine has01 ?_)) fun w0=>?_
 repeat' first|(refine gca ?_;first|(refine ca hT ?_;rintro o _ ⟨ho,rfl⟩))|refine lue ht ?_|(refine wo ?_;first|(refine ao ?_;first|refine aw ?_|refine oa ?_)|refine oa ?_|refine lnm ?_|refine ixm ?_)|(refine gc ?_;first|(refine ci (fun hB=>?_) (fun hB=>?_) <;> try (exfalso;omega)))|refine sq ?_|refine rg ?_|refine xc ?_|refine nl ?_|refine sk ?_|refine bk ?_
 refine TC.loop (ι:=Nat × Nat) (fun g=>[(3,I ((64 * m + g.1:Nat):Int)),(4,Un g.2)]) (fun _=>[]) (fun g=>g.1 ≤ 64∧g.2 = t / 2 ^ g.1∧(g.1 = 0∨2 ^ (g.1 - 1) ≤ t)) (fun g=>g.2) (0,t) [] ⟨Nat.zero_le _,by simp,.inl rfl⟩ ?_ (hs:=by dsimp only;rw [show ((64 * m + 0:Nat):Int) = 64 * (((dg n).length:Int) - 1) by omega];(repeat (refine Sub.cons rfl (by first | rfl | go_num) ?_));exact Sub.nil)
 rintro ⟨b,y⟩ ⟨h1,h2,h3⟩
 dsimp only at h1 h2 h3 ⊢
 by_cases hy:0 < y
 ·have hb63:b < 64:=by
   rcases Nat.lt_or_ge b 64 with h | h
   ·exact h
   ·obtain rfl:b = 64:=by omega
    rw [Nat.div_eq_of_lt (by simpa using htl)] at h2;omega
  have hle:2 ^ b ≤ t:=by
   rcases Nat.lt_or_ge t (2 ^ b) with h | h
   ·rw [Nat.div_eq_of_lt h] at h2;omega
   ·exact h
  have hyl:y ≤ t:=by rw [h2];exact Nat.div_le_self _ _
  have hnx:Unit→(y / 2 = t / 2 ^ (b + 1)∧(b + 1 = 0∨2 ^ (b + 1 - 1) ≤ t)):=fun _=>⟨by rw [h2,Nat.div_div_eq_div_mul,← Nat.pow_succ],.inr hle⟩
  clear h2 h3 hle
  repeat' first|(refine wo ?_;first|(refine ao ?_;first|(refine nao ?_;first|refine nqu ?_)|(refine naou ?_;first|refine nqu ?_)|refine aw ?_|refine oa ?_)|refine oa ?_)|(refine gc ?_;first|(refine ci (fun hB=>?_) (fun hB=>?_) <;> try (exfalso;omega)))|refine sq ?_|refine rg ?_|refine xc ?_|refine nl ?_|refine sk ?_|refine bk ?_|refine xb ?_
  exact lp (b + 1,y / 2) ⟨hb63,(hnx ()).1,(hnx ()).2⟩ (hs:=by dsimp only;rw [show ((64 * m + (b + 1):Nat):Int) = ((64 * m + b:Nat):Int) + 1 by omega];(repeat (refine Sub.cons rfl (by first | rfl | go_num) ?_));exact Sub.nil) (hlt:=by dsimp only;omega)
 ·obtain rfl:y = 0:=by omega
  have hbt:t < 2 ^ b:=by
   rcases Nat.lt_or_ge t (2 ^ b) with h | h
   ·exact h
   ·have:=Nat.div_pos h (Nat.pow_pos (by decide));omega
  have hb0:0 < b:=by
   rcases Nat.eq_zero_or_pos b with h | h
   ·subst h;simp at hbt;omega
   ·exact h
  obtain ⟨k1,k2⟩:=pk () b ⟨hbt,h3⟩ hb0 h1
  clear h2 h3 hbt
  repeat' first|(refine wo ?_;first|(refine ao ?_;first|refine oa ?_)|refine oa ?_)|(refine gc ?_;first|refine cf ?_)|refine sq ?_|refine rg ?_|refine xc ?_|refine nl ?_|refine xe ?_|refine rt ?_
  exact r1 ⟨64 * m + b,rfl,k1,k2,rfl⟩
end Go.Art
namespace Go.Art
open Go Go.Proofs Go.RowKit
theorem shl32 (x:Nat):x * 4294967296 % 18446744073709551616 / 4294967296 = x % 4294967296:=by omega
theorem split32 (x:Nat):x / 4294967296 * 4294967296 + x % 4294967296 = x:=by omega
theorem div32 {x:Nat} (h:x < 18446744073709551616):x / 4294967296 < 4294967296:=by omega
theorem mod32 (x:Nat):x % 4294967296 < 4294967296:=by omega
theorem grow_a {h l c px:Nat} (e:h * 18446744073709551616 + l = px) (hle:px ≤ 18446744073709551615 * 18446744073709551615) (hl:l < 18446744073709551616) (hc:c < 18446744073709551616) (k:((l + c) % 18446744073709551616:Nat) < c):(l + c) % 18446744073709551616 + 18446744073709551616 * ((h + 1) % 18446744073709551616) = px + c:=by omega
theorem grow_b {h l c px:Nat} (e:h * 18446744073709551616 + l = px) (hl:l < 18446744073709551616) (hc:c < 18446744073709551616) (k:¬ ((l + c) % 18446744073709551616:Nat) < c):(l + c) % 18446744073709551616 + 18446744073709551616 * h = px + c:=by omega
theorem both_sum {p q r s:Nat} (v1:s < 18446744073709551616) (v2:q + s / 4294967296 < 18446744073709551616) (v3:r + (q + s / 4294967296) % 4294967296 < 18446744073709551616)
  (v8:(p + (q + s / 4294967296) / 4294967296 + (r + (q + s / 4294967296) % 4294967296) / 4294967296) * 18446744073709551616 + ((r + (q + s / 4294967296) % 4294967296) % 4294967296 * 4294967296 + s % 4294967296) < 18446744073709551616 * 18446744073709551616) :
  (((p % 18446744073709551616 + (q % 18446744073709551616 + s % 18446744073709551616 / 4294967296) % 18446744073709551616 / 4294967296) % 18446744073709551616 + (r % 18446744073709551616 + (q % 18446744073709551616 + s % 18446744073709551616 / 4294967296) % 18446744073709551616 * 4294967296 % 18446744073709551616 / 4294967296) % 18446744073709551616 / 4294967296) % 18446744073709551616) * 18446744073709551616 +
   ((r % 18446744073709551616 + (q % 18446744073709551616 + s % 18446744073709551616 / 4294967296) % 18446744073709551616 * 4294967296 % 18446744073709551616 / 4294967296) % 18446744073709551616 * 4294967296 % 18446744073709551616 + s % 18446744073709551616 * 4294967296 % 18446744073709551616 / 4294967296) % 18446744073709551616 =
  (p + (q + s / 4294967296) / 4294967296 + (r + (q + s / 4294967296) % 4294967296) / 4294967296) * 18446744073709551616 + ((r + (q + s / 4294967296) % 4294967296) % 4294967296 * 4294967296 + s % 4294967296):=by
 rw [Nat.mod_eq_of_lt v1,Nat.mod_eq_of_lt (show q < 18446744073709551616 by omega),Nat.mod_eq_of_lt v2,shl32,shl32,Nat.mod_eq_of_lt (show r < 18446744073709551616 by omega),Nat.mod_eq_of_lt v3]
 generalize hone:q + s / 4294967296 = one at *
 generalize htwo:r + one % 4294967296 = two at *
 omega
attribute [local irreducible] Fit pt own ro vw mpc lpt vels rels mow lrc dfr
theorem moved_tr (s:Nat) (hs:s ≤ 16777216):Tr Tryz.prog 231 [I s] [] [] fun u D=>u = .bool true∧D = []:=by
 refine Tr.enter env _ Tryz.func231 (by kernel_rfl) rfl Tryz.ntmps231 rfl (by repeat (first | exact has00 | refine has01 ?_)) fun w0=>?_
 repeat' first|(refine wo ?_;first|(refine ao ?_;first|refine oa ?_)|refine oa ?_|refine gy ?_)|refine sq ?_|refine rg ?_|refine xc ?_|refine nl ?_|refine rt ?_
 refine r1 ⟨?_,rfl⟩
 rw [decide_eq_true (by omega)]
theorem RDown_tr (v1:Value) (l:List Nat) (s:Nat) (hs:s ≤ 16777216) (hd:Dg l) (hl:l.length ≤ 1099511627776):Tr Tryz.prog 210 [v1,I s] [vw v1 (Us l)] [] fun u D=>∃ o,u = tup2 o (I 0)∧o.oneCell' = true∧D = [own T64 o (Us (dg (nv l / 2 ^ s)))]:=by
 obtain ⟨q,hq⟩ : ∃ q,q = s / 64:=⟨_,rfl⟩
 obtain ⟨p,hp⟩ : ∃ p,p = s % 64:=⟨_,rfl⟩
 have hqi:(s:Int) / 64 = q:=by omega
 have hpi:(s:Int) % 64 = p:=by omega
 have hp63:p < 64:=by omega
 have hsq:s = 64 * q + p:=by omega
 have hg:0 < 2 ^ p:=Nat.pow_pos (by decide)
 have hg2:0 < 2 ^ (64 - p):=Nat.pow_pos (by decide)
 have hsp:2 ^ p * 2 ^ (64 - p) = 18446744073709551616:=by rw [← Nat.pow_add,show p + (64 - p) = 64 by omega]
 have hend:nv l / 2 ^ s = nv (l.drop q) / 2 ^ p:=by rw [nv_drop_div hd,Nat.div_div_eq_div_mul,pow_W,← Nat.pow_add,hsq]
 rw [hend]
 have pkE:Unit→∀ (ys:List Nat) (j:Nat),l.length ≤ q + j→nv ys * 2 ^ p + (l.drop q).getD 0 0 % 2 ^ p = nv ((l.drop q).take j) + 18446744073709551616 ^ j * ((l.drop q).getD j 0 % 2 ^ p)→nv ys = nv (l.drop q) / 2 ^ p:=fun _ ys j hj hI=>by
  rw [nv_take_all (by rw [List.length_drop];omega),getD_over (i:=j) (by rw [List.length_drop];omega),Nat.zero_mod,Nat.mul_zero,Nat.add_zero] at hI
  rw [← hI,Nat.add_comm,Nat.add_mul_div_right _ _ hg,Nat.div_eq_of_lt (Nat.mod_lt _ hg),Nat.zero_add]
 have pkS:Unit→∀ (ys:List Nat) (j:Nat),ys.length = j→nv ys * 2 ^ p + (l.drop q).getD 0 0 % 2 ^ p = nv ((l.drop q).take j) + 18446744073709551616 ^ j * ((l.drop q).getD j 0 % 2 ^ p) →
   ∃ z d y,(l.getD (q + j) 0 / 2 ^ (min ((p:Int)).toNat 64) = z∧(0 < p→l.getD (q + j + 1) 0 * 2 ^ (min (((64 - p:Nat):Int)).toNat 64) % 18446744073709551616 = d∧z ||| d = y)∧(p = 0→z = y))∧z < 18446744073709551616∧d < 18446744073709551616∧y < 18446744073709551616 ∧
    nv (ys ++ [y]) * 2 ^ p + (l.drop q).getD 0 0 % 2 ^ p = nv ((l.drop q).take (j + 1)) + 18446744073709551616 ^ (j + 1) * ((l.drop q).getD (j + 1) 0 % 2 ^ p):=fun _ ys j hj hI=>by
  have g0:(l.drop q).getD j 0 = l.getD (q + j) 0:=by simp [List.getD_eq_getElem?_getD,List.getElem?_drop]
  have g1:(l.drop q).getD (j + 1) 0 = l.getD (q + j + 1) 0:=by simp [List.getD_eq_getElem?_getD,List.getElem?_drop,Nat.add_assoc]
  have hx:=hd.getD (q + j)
  have hx1:=hd.getD (q + j + 1)
  rw [g0] at hI
  have hS:∀ y,nv (ys ++ [y]) = nv ys + 18446744073709551616 ^ j * y:=fun y=>by rw [nv_snoc,hj]
  rw [g1,nv_take_s,g0]
  generalize l.getD (q + j) 0 = x at *
  generalize l.getD (q + j + 1) 0 = x1 at *
  have hdl:x1 % 2 ^ p < 2 ^ p:=Nat.mod_lt _ hg
  obtain ⟨d,hdd⟩ : ∃ d,d = x1 % 2 ^ p * 2 ^ (64 - p):=⟨_,rfl⟩
  have b1:x / 2 ^ p < 18446744073709551616:=Nat.lt_of_le_of_lt (Nat.div_le_self _ _) hx
  have b1':x / 2 ^ p < 2 ^ (64 - p):=Nat.div_lt_of_lt_mul (by rw [hsp];exact hx)
  have b2:d < 18446744073709551616:=by rw [hdd,← hsp];exact Nat.mul_lt_mul_of_pos_right hdl hg2
  have b3:d + 2 ^ (64 - p) ≤ 18446744073709551616:=by
   have:=Nat.mul_le_mul_right (2 ^ (64 - p)) hdl
   rw [Nat.succ_mul,hsp] at this
   rw [hdd];exact this
  have hmp:min ((p:Int)).toNat 64 = p:=by rw [Int.toNat_natCast];exact Nat.min_eq_left (by omega)
  have hmp2:min (((64 - p:Nat):Int)).toNat 64 = 64 - p:=by rw [Int.toNat_natCast];exact Nat.min_eq_left (by omega)
  have hyg:(x / 2 ^ p + d) * 2 ^ p = x - x % 2 ^ p + x1 % 2 ^ p * 18446744073709551616:=by
   have h1:=Nat.div_add_mod x (2 ^ p)
   rw [Nat.add_mul,hdd,Nat.mul_assoc,Nat.mul_comm (2 ^ (64 - p)),hsp,Nat.mul_comm (x / 2 ^ p)]
   omega
  refine ⟨x / 2 ^ p,d,x / 2 ^ p + d,⟨by rw [hmp],fun h=>⟨?_,?_⟩,fun h=>?_⟩,b1,b2,by omega,?_⟩
  ·rw [hmp2,hdd]
   conv=>lhs;rw [← hsp]
   exact Nat.mul_mod_mul_right _ _ _
  ·rw [Nat.or_comm,hdd,Nat.mul_comm _ (2 ^ (64 - p)),or_add b1'];exact Nat.add_comm _ _
  ·subst h;rw [hdd,Nat.pow_zero,Nat.mod_one,Nat.zero_mul,Nat.add_zero]
  ·rw [hS,Nat.pow_succ];exact down_step hI hyg
 clear hg hg2 hsp hend
 refine Tr.enter env _ Tryz.func210 (by kernel_rfl) rfl Tryz.ntmps210 rfl (by repeat (first | exact has00 | refine has01 ?_)) fun w0=>?_
 repeat' first|(refine gca ?_;first|(refine ca (moved_tr s hs) ?_;rintro _ _ ⟨rfl,rfl⟩))|(refine adiv ?_;rw [hqi])|(refine amod ?_;rw [hpi])|(refine ntu (m:=(p:Int)) ?_;rw [Int.toNat_natCast])|(refine wo ?_;first|refine oa ?_)|(refine gc ?_;first|refine cf ?_)|refine sq ?_|refine rg ?_|refine xc ?_|refine nl ?_|refine sk ?_|refine bk ?_
 refine TC.im (own_nil T64 _) ?_
 refine TC.loop (ι:=NaG) (fun g=>[(8,I ((q + g.i:Nat):Int)),(6,g.o)]) (fun g=>[own T64 g.o (Us g.ys)]) (fun g=>(g.ys.length = g.i∧(g.i = 0∨q + g.i ≤ l.length))∧Dg g.ys∧nv g.ys * 2 ^ p + (l.drop q).getD 0 0 % 2 ^ p = nv ((l.drop q).take g.i) + 18446744073709551616 ^ g.i * ((l.drop q).getD g.i 0 % 2 ^ p)) (fun g=>l.length - (q + g.i)) ⟨0,0,nS,[]⟩ [0,7] ⟨⟨rfl,.inl rfl⟩,Dg.nil,by simp [nv]⟩ ?_ (hf:=by dsimp only;exact fitA)
 rintro ⟨i,_,o,ys⟩ ⟨⟨h1,h2⟩,hdy,hI⟩
 dsimp only at h1 h2 hdy hI ⊢
 by_cases hi:q + i < l.length
 ·obtain ⟨z,d,y,⟨e1,e2,e3⟩,bz,bd,by_,hnx⟩:=pkS () ys i h1 hI
  have hD:=Rdigit_tr v1 l (q + i + 1)
  rw [show ((q + i + 1:Nat):Int) = ((q + i:Nat):Int) + 1 by omega] at hD
  have pe1:Unit→_:=fun _=>e1
  have pe2:Unit→_:=fun _=>e2
  have pn:Unit→_:=fun _=>hnx
  clear pkS pkE hI e1 e2 hnx
  by_cases hp0:p = 0
  ·have ezy:=e3 hp0
   subst ezy
   clear e3 pe2
   repeat' first|(refine nsre (pe1 ()) ?_)|(refine slu [_] fun qv hqv=>?_)|(refine apu (v:=o) (l:=ys) (news:=[_]) (fun o2=>?_))|(refine wo ?_;first|(refine ao ?_;first|refine aw ?_|refine oa ?_)|refine lu ?_|refine oa ?_|refine lnm ?_|refine ixmn ?_)|(refine gc ?_;first|(refine ci (fun hB=>?_) (fun hB=>?_) <;> try (exfalso;omega)))|refine sq ?_|refine rg ?_|refine xc ?_|refine nl ?_|refine sk ?_|refine bk ?_|refine xb ?_
   exact lp ⟨i + 1,0,o2,ys ++ [z]⟩ ⟨⟨by simp [h1],.inr (by dsimp only;omega)⟩,hdy.snoc by_,pn ()⟩ (hs:=by dsimp only;rw [show ((q + (i + 1):Nat):Int) = ((q + i:Nat):Int) + 1 by omega];(repeat (refine Sub.cons rfl (by first | rfl | go_num) ?_));exact Sub.nil)
  ·have e4:Unit→_:=fun _=>pe2 () (by omega)
   clear e3 pe2
   repeat' first|(refine gca ?_;first|(refine ca hD ?_;rintro _ _ ⟨rfl,rfl⟩))|(refine nsre (pe1 ()) ?_)|(refine nsle (e4 ()).1 ?_)|(refine nore (e4 ()).2 ?_)|(refine slu [_] fun qv hqv=>?_)|(refine apu (v:=o) (l:=ys) (news:=[_]) (fun o2=>?_))|(refine wo ?_;first|(refine ao ?_;first|(refine nao ?_;first|refine nsb ?_)|(refine naou ?_;first|refine nsb ?_)|refine aw ?_|refine oa ?_)|refine lu ?_|refine oa ?_|refine lnm ?_|refine ixmn ?_)|(refine gc ?_;first|(refine ci (fun hB=>?_) (fun hB=>?_) <;> try (exfalso;omega)))|refine sq ?_|refine rg ?_|refine xc ?_|refine nl ?_|refine sk ?_|refine bk ?_|refine xb ?_
   exact lp ⟨i + 1,0,o2,ys ++ [y]⟩ ⟨⟨by simp [h1],.inr (by dsimp only;omega)⟩,hdy.snoc by_,pn ()⟩ (hs:=by dsimp only;rw [show ((q + (i + 1):Nat):Int) = ((q + i:Nat):Int) + 1 by omega];(repeat (refine Sub.cons rfl (by first | rfl | go_num) ?_));exact Sub.nil)
 ·have hn:=pkE () ys i (by omega) hI
  have hT:=RTrim_tr o ys hdy (by omega)
  rw [hn] at hT
  clear pkS pkE hI hn
  obtain ⟨m,hm⟩ : ∃ m,m = nv (l.drop q) / 2 ^ p:=⟨_,rfl⟩
  rw [← hm] at hT ⊢
  clear hm
  repeat' first|(refine gca ?_;first|(refine ca hT ?_;rintro o2 _ ⟨ho2,rfl⟩))|(refine wo ?_;first|(refine ao ?_;first|refine oa ?_)|refine oa ?_|refine lnm ?_)|(refine gc ?_;first|(refine ci (fun hB=>?_) (fun hB=>?_) <;> try (exfalso;omega)))|refine sq ?_|refine rg ?_|refine xc ?_|refine nl ?_|refine xe ?_|refine rt ?_
  exact r2 ⟨o2,rfl,ho2,rfl⟩
theorem both_tr (x y:Nat) (hx:x < 18446744073709551616) (hy:y < 18446744073709551616):Tr Tryz.prog 106 [Un x,Un y] [] [] fun u D=>∃ h l,u = tup2 (Un h) (Un l)∧D = []∧h < 18446744073709551616∧l < 18446744073709551616∧h * 18446744073709551616 + l = x * y:=by
 refine Tr.enter env _ Tryz.func106 (by kernel_rfl) rfl Tryz.ntmps106 rfl (by repeat (first | exact has00 | refine has01 ?_)) fun w0=>?_
 repeat' first|(refine wo ?_;first|(refine ao ?_;first|(refine nao ?_;first|refine nadm ?_|refine nmlm ?_|refine nsl ?_|refine nsr ?_)|(refine naou ?_;first|refine nadm ?_|refine nmlm ?_|refine nsl ?_|refine nsr ?_))|refine oa ?_)|refine sq ?_|refine rg ?_|refine xc ?_|refine nl ?_|refine rt ?_
 have hv:=both_val (div32 hx) (mod32 x) (div32 hy) (mod32 y)
 rw [split32,split32] at hv
 obtain ⟨⟨v1,v2,v3⟩,v4⟩:=hv
 have v8:x * y < 18446744073709551616 * 18446744073709551616:=Nat.mul_lt_mul'' hx hy
 rw [← v4] at v8
 have key:=both_sum v1 v2 v3 v8
 rw [v4] at key
 clear v1 v2 v3 v4 v8
 refine r2 ⟨_,_,rfl,rfl,Nat.mod_lt _ (Nat.pos_of_ne_zero (by decide)),Nat.mod_lt _ (Nat.pos_of_ne_zero (by decide)),?_⟩
 simp only [show min (Int.toNat 32) 64 = 32 from rfl,show (2:Nat) ^ 32 = 4294967296 from rfl,shl32] at key ⊢
 exact key
theorem RGrow_tr (va:Value) (a:List Nat) (x:Nat) (ha:Dg a) (hx:x < 18446744073709551616) (hla:a.length ≤ 1099511627776):Tr Tryz.prog 57 [va,Un x] [vw va (Us a)] [] fun u D=>u.oneCell' = true∧D = [own T64 u (Us (dg (nv a * x)))]:=by
 refine Tr.enter env _ Tryz.func57 (by kernel_rfl) rfl Tryz.ntmps57 rfl (by repeat (first | exact has00 | refine has01 ?_)) fun w0=>?_
 repeat' first|(refine wo ?_;first|refine oa ?_)|refine sq ?_|refine rg ?_|refine xc ?_|refine nl ?_|refine bk ?_
 refine TC.im (own_nil T64 _) ?_
 refine TC.loop (ι:=NaG) (fun g=>[(7,I g.i),(6,Un g.c),(5,g.o)]) (fun g=>[own T64 g.o (Us g.ys)]) (fun g=>(g.ys.length = g.i∧g.i ≤ a.length∧g.c < 18446744073709551616)∧Dg g.ys∧nv g.ys + g.c * 18446744073709551616 ^ g.i = nv (a.take g.i) * x) (fun g=>a.length - g.i) ⟨0,0,nS,[]⟩ [0,1] ⟨⟨rfl,Nat.zero_le _,Nat.pos_of_ne_zero (by decide)⟩,Dg.nil,by simp [nv]⟩ ?_ (hf:=by dsimp only;exact fitA)
 rintro ⟨i,c,o,ys⟩ ⟨⟨h1,h2,hc⟩,hd,hI⟩
 dsimp only at h1 h2 hc hd hI ⊢
 by_cases hi:i < a.length
 ·have hy:=ha.getD i
  have hta:=nv_take_s a i
  have hBo:=(both_tr (a.getD i 0) x hy hx).mono (R':=fun u D=>∃ h l,u = tup2 (Un h) (Un l)∧D = []∧h < 18446744073709551616∧l < 18446744073709551616∧(Unit→h * 18446744073709551616 + l = a.getD i 0 * x)) fun u D ⟨h,l,g1,g2,g3,g4,g5⟩=>⟨h,l,g1,g2,g3,g4,fun _=>g5⟩
  have pk:Unit→∀ (d e:Nat),d + 18446744073709551616 * e = a.getD i 0 * x + c→nv (ys ++ [d]) + e * 18446744073709551616 ^ (i + 1) = nv (a.take (i + 1)) * x:=fun _ d e h=>by
   rw [nv_snoc,h1,hta,Nat.pow_succ,Nat.add_mul,← hI]
   have:=congrArg (18446744073709551616 ^ i * ·) h
   simp only [Nat.mul_add] at this
   rw [Nat.mul_assoc (18446744073709551616 ^ i) (a.getD i 0) x]
   have e1:e * (18446744073709551616 ^ i * 18446744073709551616) = 18446744073709551616 ^ i * (18446744073709551616 * e):=by ac_rfl
   rw [e1,Nat.mul_comm c]
   omega
  have hle:Unit→a.getD i 0 * x ≤ 18446744073709551615 * 18446744073709551615:=fun _=>Nat.mul_le_mul (by omega) (by omega)
  clear hta hI
  generalize hpx:a.getD i 0 * x = px at *
  repeat' first|(refine gca ?_;first|(refine ca hBo ?_;rintro _ _ ⟨h,l,rfl,rfl,hh,hl,hhl⟩))|(refine slu [_] fun qv hqv=>?_)|(refine apu (v:=o) (l:=ys) (news:=[_]) (fun o2=>?_))|(refine wo ?_;first|(refine ao ?_;first|(refine nao ?_;first|refine nadm ?_)|(refine naou ?_;first|refine nadm ?_)|refine aw ?_|refine oa ?_)|refine lu ?_|refine oa ?_|refine lnm ?_|refine ixmn ?_)|(refine gc ?_;first|(refine ci (fun hB=>?_) (fun hB=>?_) <;> try (exfalso;omega)))|refine sq ?_|refine rg ?_|refine xc ?_|refine nl ?_|refine sk ?_|refine bk ?_|refine xb ?_
  ·have g:=grow_a (hhl ()) (hle ()) hl hc (by omega)
   exact lp ⟨i + 1,(h + 1) % 18446744073709551616,o2,ys ++ [(l + c) % 18446744073709551616]⟩ ⟨⟨by simp [h1],hi,Nat.mod_lt _ (Nat.pos_of_ne_zero (by decide))⟩,hd.snoc (Nat.mod_lt _ (Nat.pos_of_ne_zero (by decide))),pk () _ _ g⟩ (hlt:=by clear g;dsimp only;omega)
  ·have g:=grow_b (hhl ()) hl hc (by omega)
   exact lp ⟨i + 1,h,o2,ys ++ [(l + c) % 18446744073709551616]⟩ ⟨⟨by simp [h1],hi,hh⟩,hd.snoc (Nat.mod_lt _ (Nat.pos_of_ne_zero (by decide))),pk () _ _ g⟩ (hlt:=by clear g;dsimp only;omega)
 ·obtain rfl:i = a.length:=by omega
  rw [List.take_length] at hI
  have hn:nv (ys ++ [c]) = nv a * x:=by rw [nv_snoc,h1,Nat.mul_comm];exact hI
  have hT:=fun v=>RTrim_tr v (ys ++ [c]) (hd.snoc hc) (by simp;omega)
  simp only [hn] at hT
  clear hI hn
  obtain ⟨m,hm⟩ : ∃ m,m = nv a * x:=⟨_,rfl⟩
  simp only [← hm] at hT ⊢
  clear hm
  repeat' first|(refine gca ?_;first|(refine ca (hT _) ?_;rintro o3 _ ⟨ho3,rfl⟩))|(refine slu [_] fun qv hqv=>?_)|(refine apu (v:=o) (l:=ys) (news:=[_]) (fun o2=>?_))|(refine wo ?_;first|(refine ao ?_;first|refine oa ?_)|refine oa ?_|refine lnm ?_)|(refine gc ?_;first|(refine ci (fun hB=>?_) (fun hB=>?_) <;> try (exfalso;omega)))|refine sq ?_|refine rg ?_|refine xc ?_|refine nl ?_|refine xe ?_|refine rt ?_
  exact r1 ⟨ho3,rfl⟩
end Go.Art
namespace Go.Art
open Go Go.Proofs Go.RowKit
theorem bit_val {l:List Nat} (hd:Dg l) (i:Nat):l.getD (i / 64) 0 / 2 ^ (i % 64) % 2 = nv l / 2 ^ i % 2:=by
 have e:nv l / 2 ^ i = nv (l.drop (i / 64)) / 2 ^ (i % 64):=by
  rw [nv_drop_div hd,Nat.div_div_eq_div_mul,pow_W,← Nat.pow_add,show 64 * (i / 64) + i % 64 = i by omega]
 have h0:0 < 2 ^ (i % 64):=Nat.pow_pos (by decide)
 have h1:18446744073709551616 = 2 ^ (i % 64) * (2 * 2 ^ (63 - i % 64)):=by
  rw [← Nat.pow_succ',← Nat.pow_add,show i % 64 + (63 - i % 64 + 1) = 64 by omega]
 rw [e,nv_step l (i / 64)]
 generalize l.getD (i / 64) 0 = x
 generalize nv (l.drop (i / 64 + 1)) = r
 rw [h1,Nat.mul_assoc,Nat.add_mul_div_left _ _ h0,Nat.mul_assoc,Nat.add_mul_mod_self_left]
theorem bit_over {l:List Nat} (hd:Dg l) {i:Nat} (h:l.length ≤ i / 64):nv l / 2 ^ i % 2 = 0:=by
 rw [← bit_val hd,getD_over h];simp
theorem twice_word {x c:Nat} (hx:x < 18446744073709551616) (hc:c ≤ 1):x * 2 ^ (min (Int.toNat 1) 64) % 18446744073709551616 ||| c = x * 2 % 18446744073709551616 + c∧x * 2 % 18446744073709551616 + c < 18446744073709551616∧x * 2 % 18446744073709551616 + c + 18446744073709551616 * (x / 2 ^ (min (Int.toNat 63) 64)) = 2 * x + c:=by
 have e1:min (Int.toNat 1) 64 = 1:=rfl
 have e2:(2:Nat) ^ (min (Int.toNat 63) 64) = 9223372036854775808:=rfl
 have e3:x * 2 % 18446744073709551616 = 2 ^ 1 * (x % 9223372036854775808):=by omega
 rw [e1,e2,Nat.pow_one,e3,or_add (by omega)]
 omega
theorem bit_div (n i:Nat):n / 2 ^ i = 2 * (n / 2 ^ (i + 1)) + n / 2 ^ i % 2:=by
 rw [Nat.pow_succ,← Nat.div_div_eq_div_mul];omega
theorem set_bit {qs:List Nat} (hd:Dg qs) {Q i:Nat} (h:nv qs = Q * 2 ^ (i + 1)) (hi:i / 64 < qs.length) :
  ∃ y,qs.getD (i / 64) 0 ||| 2 ^ (i % 64) = y∧y < 18446744073709551616∧nv (qs.set (i / 64) y) = (2 * Q + 1) * 2 ^ i:=by
 have hx:=hd.getD (i / 64)
 have hdv:nv (qs.drop (i / 64)) = Q * 2 ^ (i % 64 + 1):=by
  rw [nv_drop_div hd,h,pow_W,show i + 1 = (i % 64 + 1) + 64 * (i / 64) by omega,Nat.pow_add,← Nat.mul_assoc,Nat.mul_div_cancel _ (Nat.pow_pos (by decide))]
 have hW:18446744073709551616 = 2 ^ (i % 64 + 1) * 2 ^ (63 - i % 64):=by
  rw [← Nat.pow_add,show i % 64 + 1 + (63 - i % 64) = 64 by omega]
 have hm:qs.getD (i / 64) 0 % 2 ^ (i % 64 + 1) = 0:=by
  have h1:=nv_step qs (i / 64)
  rw [hdv] at h1
  have h2:=congrArg (· % 2 ^ (i % 64 + 1)) h1
  simp only [Nat.mul_mod_left] at h2
  rw [hW,Nat.mul_assoc,Nat.add_mul_mod_self_left] at h2
  exact h2.symm
 obtain ⟨t,ht⟩ : ∃ t,qs.getD (i / 64) 0 = 2 ^ (i % 64 + 1) * t:=⟨qs.getD (i / 64) 0 / 2 ^ (i % 64 + 1),by have:=Nat.div_add_mod (qs.getD (i / 64) 0) (2 ^ (i % 64 + 1));omega⟩
 have hp:2 ^ (i % 64) < 2 ^ (i % 64 + 1):=Nat.pow_lt_pow_right (by decide) (Nat.lt_succ_self _)
 refine ⟨qs.getD (i / 64) 0 + 2 ^ (i % 64),?_,?_,?_⟩
 ·rw [ht,or_add hp]
 ·have h3:2 ^ (i % 64 + 1) * (t + 1) ≤ 18446744073709551616:=by
   rw [hW]
   refine Nat.mul_le_mul_left _ ?_
   refine Nat.lt_of_mul_lt_mul_left (a:=2 ^ (i % 64 + 1)) ?_
   rw [← hW,← ht];exact hx
  rw [Nat.mul_add,Nat.mul_one,← ht] at h3
  omega
 ·have h4:=nv_set qs (i / 64) (qs.getD (i / 64) 0 + 2 ^ (i % 64)) hi
  rw [Nat.mul_add] at h4
  have h5:18446744073709551616 ^ (i / 64) * 2 ^ (i % 64) = 2 ^ i:=by rw [pow_W,← Nat.pow_add,show 64 * (i / 64) + i % 64 = i by omega]
  rw [Nat.add_mul,Nat.one_mul,← h5]
  rw [Nat.pow_succ] at h
  rw [h5] at h4 ⊢
  have h6:2 * Q * 2 ^ i = Q * (2 ^ i * 2):=by ac_rfl
  omega
attribute [local irreducible] Fit pt own ro vw mpc lpt vels rels mow lrc dfr
theorem bit_tr (v:Value) (l:List Nat) (i:Nat) (hd:Dg l) (hi:i ≤ 1099511627776):Tr Tryz.prog 212 [v,I i] [vw v (Us l)] [] fun u D=>u = .bool (decide (nv l / 2 ^ i % 2 = 1))∧D = []:=by
 obtain ⟨q,hq⟩ : ∃ q,q = i / 64:=⟨_,rfl⟩
 obtain ⟨p,hp⟩ : ∃ p,p = i % 64:=⟨_,rfl⟩
 have hqi:(i:Int) / 64 = q:=by omega
 have hpi:(i:Int) % 64 = p:=by omega
 have hbv:=bit_val hd i
 have hbo:=@bit_over l hd i
 rw [← hq,← hp] at hbv
 rw [← hq] at hbo
 obtain ⟨bb,hbb⟩ : ∃ bb,bb = nv l / 2 ^ i % 2:=⟨_,rfl⟩
 rw [← hbb] at hbv hbo ⊢
 have hmp:min ((p:Int)).toNat 64 = p:=by rw [Int.toNat_natCast];exact Nat.min_eq_left (by omega)
 obtain ⟨x,hx⟩ : ∃ x,l.getD q 0 = x:=⟨_,rfl⟩
 obtain ⟨z,hz⟩ : ∃ z,x / 2 ^ p = z:=⟨_,rfl⟩
 have hzz:Unit→x / 2 ^ (min ((p:Int)).toNat 64) = z:=fun _=>by rw [hmp];exact hz
 rw [hx,hz] at hbv
 have hxl:x < 18446744073709551616:=by rw [← hx];exact hd.getD q
 have hzl:z < 18446744073709551616:=by rw [← hz];exact Nat.lt_of_le_of_lt (Nat.div_le_self _ _) hxl
 have hzp:Unit→_:=fun _=>hbv
 clear hmp hz hbb hd hp hbv
 refine Tr.enter env _ Tryz.func212 (by kernel_rfl) rfl Tryz.ntmps212 rfl (by repeat (first | exact has00 | refine has01 ?_)) fun w0=>?_
 refine TC.lenu (v:=v) (l:=l) fun hll=>?_
 repeat' first|(refine adiv ?_;rw [hqi])|(refine amod ?_;rw [hpi])|(refine ntu (m:=(p:Int)) ?_;rw [Int.toNat_natCast])|refine lue hx ?_|refine nsre (hzz ()) ?_|(refine wo ?_;first|(refine ao ?_;first|(refine nao ?_;first|refine nrm ?_)|(refine naou ?_;first|refine nrm ?_)|refine oa ?_)|refine oa ?_|refine lnm ?_|refine ixmn ?_|refine gy ?_|refine gn ?_|(refine gsi (fun hB=>?_) (fun hB=>?_) <;> try (exfalso;omega)))|refine sq ?_|refine rg ?_|refine xc ?_|refine nl ?_|refine rt ?_
 ·have e:=hzp ()
  refine r1 ⟨?_,rfl⟩
  congr 1;exact decide_eq_decide.2 ⟨fun h=>by omega,fun h=>by omega⟩
 ·have e:=hbo (by omega)
  refine r1 ⟨?_,rfl⟩
  rw [decide_eq_false (by omega)]
theorem twice_tr (v:Value) (l:List Nat) (b:Bool) (hd:Dg l) (hlt:2 * nv l + (if b then 1 else 0) < 18446744073709551616 ^ l.length):Tr Tryz.prog 211 [v,.bool b] [] [own T64 v (Us l)] fun _ D=>∃ l',D = [own T64 v (Us l')]∧l'.length = l.length∧Dg l'∧nv l' = 2 * nv l + (if b then 1 else 0):=by
 cases b with
 | true=>
  refine Tr.enter env _ Tryz.func211 (by kernel_rfl) rfl Tryz.ntmps211 rfl (by repeat (first | exact has00 | refine has01 ?_)) fun w0=>?_
  refine TC.lenu (v:=v) (l:=l) fun hll=>?_
  repeat' first|(refine wo ?_;first|refine oa ?_)|(refine gc ?_;first|refine ct ?_)|refine sq ?_|refine rg ?_|refine xc ?_|refine nl ?_|refine bk ?_
  refine TC.loop (ι:=NaG) (fun g=>[(5,I g.i),(4,Un g.c)]) (fun g=>[own T64 v (Us g.ys)]) (fun g=>(g.ys.length = l.length∧g.i ≤ l.length∧g.c ≤ 1)∧Dg g.ys∧(∀ j,g.i ≤ j→g.ys.getD j 0 = l.getD j 0)∧nv (g.ys.take g.i) + g.c * 18446744073709551616 ^ g.i = 2 * nv (l.take g.i) + 1) (fun g=>l.length - g.i) ⟨0,1,nS,l⟩ [0] ⟨⟨rfl,Nat.zero_le _,by dsimp only;omega⟩,hd,fun _ _=>rfl,by simp [nv]⟩ ?_
  rintro ⟨i,c,_,ys⟩ ⟨⟨h1,h2,hc⟩,hdy,hj,hI⟩
  dsimp only at h1 h2 hc hdy hj hI ⊢
  by_cases hi:i < l.length
  ·have hx:=hd.getD i
   have hxe:=hj i (Nat.le_refl _)
   have hta:=nv_take_s l i
   obtain ⟨w1,w2,w3⟩:=twice_word hx hc
   obtain ⟨y,hy⟩ : ∃ y,y = l.getD i 0 * 2 % 18446744073709551616 + c:=⟨_,rfl⟩
   obtain ⟨cz,hcz⟩ : ∃ cz,l.getD i 0 / 2 ^ (min (Int.toNat 63) 64) = cz:=⟨_,rfl⟩
   rw [← hy] at w1 w2 w3
   rw [hcz] at w3
   have pk:Unit→(cz ≤ 1∧nv ((ys.set i y).take (i + 1)) + cz * 18446744073709551616 ^ (i + 1) = 2 * nv (l.take (i + 1)) + 1):=fun _=>by
    refine ⟨by omega,?_⟩
    rw [nv_set_take _ _ _ (by omega),hta,Nat.pow_succ]
    have:=congrArg (18446744073709551616 ^ i * ·) w3
    simp only [Nat.mul_add] at this
    have e1:cz * (18446744073709551616 ^ i * 18446744073709551616) = 18446744073709551616 ^ i * (18446744073709551616 * cz):=by ac_rfl
    have e2:18446744073709551616 ^ i * (2 * l.getD i 0) = 2 * (18446744073709551616 ^ i * l.getD i 0):=by ac_rfl
    rw [e1,Nat.mul_add]
    rw [e2] at this
    rw [Nat.mul_comm c] at hI
    omega
   have q1:=fun (_:Unit)=>w1
   have q2:=fun (_:Unit)=>hcz
   clear hta hI w1 w3 hy hcz
   generalize l.getD i 0 = x at *
   repeat' first|refine lue hxe ?_|refine nsre (q2 ()) ?_|refine nsl ?_|refine nore (q1 ()) ?_ (ha:=Nat.mod_lt _ (Nat.pos_of_ne_zero (by decide)))|(refine wo ?_;first|(refine ao ?_;first|refine aw ?_|refine oa ?_)|refine sou ?_|refine oa ?_|refine lnm ?_|refine ixmn ?_)|(refine gc ?_;first|(refine ci (fun hB=>?_) (fun hB=>?_) <;> try (exfalso;omega)))|refine sq ?_|refine rg ?_|refine xc ?_|refine nl ?_|refine sk ?_|refine bk ?_|refine xb ?_
   exact lp ⟨i + 1,cz,nS,ys.set i y⟩ ⟨⟨by dsimp only;rw [List.length_set];exact h1,hi,(pk ()).1⟩,hdy.set w2,fun j h=>by
    dsimp only at h ⊢
    rw [← hj j (by omega)]
    simp [List.getD_eq_getElem?_getD,show ¬ i = j by omega],(pk ()).2⟩ (hlt:=by clear q1 q2 pk;dsimp only;omega)
  ·obtain rfl:i = l.length:=by omega
   rw [nv_take_all (by omega),nv_take_all (Nat.le_refl _)] at hI
   have hn:nv ys = 2 * nv l + 1:=by
    rcases Nat.eq_zero_or_pos c with h0 | h0
    ·subst h0;omega
    ·obtain rfl:c = 1:=by omega
     have:=hlt
     simp at this
     omega
   clear hI
   repeat' first|(refine wo ?_;first|(refine ao ?_;first|refine oa ?_)|refine oa ?_|refine lnm ?_)|(refine gc ?_;first|(refine ci (fun hB=>?_) (fun hB=>?_) <;> try (exfalso;omega)))|refine sq ?_|refine rg ?_|refine xc ?_|refine nl ?_|refine xe ?_
   exact e0 ⟨ys,rfl,h1,hdy,hn⟩
 | false=>
  refine Tr.enter env _ Tryz.func211 (by kernel_rfl) rfl Tryz.ntmps211 rfl (by repeat (first | exact has00 | refine has01 ?_)) fun w0=>?_
  refine TC.lenu (v:=v) (l:=l) fun hll=>?_
  repeat' first|(refine wo ?_;first|refine oa ?_)|(refine gc ?_;first|refine cf ?_)|refine sq ?_|refine rg ?_|refine xc ?_|refine nl ?_|refine sk ?_|refine bk ?_
  refine TC.loop (ι:=NaG) (fun g=>[(5,I g.i),(4,Un g.c)]) (fun g=>[own T64 v (Us g.ys)]) (fun g=>(g.ys.length = l.length∧g.i ≤ l.length∧g.c ≤ 1)∧Dg g.ys∧(∀ j,g.i ≤ j→g.ys.getD j 0 = l.getD j 0)∧nv (g.ys.take g.i) + g.c * 18446744073709551616 ^ g.i = 2 * nv (l.take g.i) + 0) (fun g=>l.length - g.i) ⟨0,0,nS,l⟩ [0] ⟨⟨rfl,Nat.zero_le _,by dsimp only;omega⟩,hd,fun _ _=>rfl,by simp [nv]⟩ ?_
  rintro ⟨i,c,_,ys⟩ ⟨⟨h1,h2,hc⟩,hdy,hj,hI⟩
  dsimp only at h1 h2 hc hdy hj hI ⊢
  by_cases hi:i < l.length
  ·have hx:=hd.getD i
   have hxe:=hj i (Nat.le_refl _)
   have hta:=nv_take_s l i
   obtain ⟨w1,w2,w3⟩:=twice_word hx hc
   obtain ⟨y,hy⟩ : ∃ y,y = l.getD i 0 * 2 % 18446744073709551616 + c:=⟨_,rfl⟩
   obtain ⟨cz,hcz⟩ : ∃ cz,l.getD i 0 / 2 ^ (min (Int.toNat 63) 64) = cz:=⟨_,rfl⟩
   rw [← hy] at w1 w2 w3
   rw [hcz] at w3
   have pk:Unit→(cz ≤ 1∧nv ((ys.set i y).take (i + 1)) + cz * 18446744073709551616 ^ (i + 1) = 2 * nv (l.take (i + 1)) + 0):=fun _=>by
    refine ⟨by omega,?_⟩
    rw [nv_set_take _ _ _ (by omega),hta,Nat.pow_succ]
    have:=congrArg (18446744073709551616 ^ i * ·) w3
    simp only [Nat.mul_add] at this
    have e1:cz * (18446744073709551616 ^ i * 18446744073709551616) = 18446744073709551616 ^ i * (18446744073709551616 * cz):=by ac_rfl
    have e2:18446744073709551616 ^ i * (2 * l.getD i 0) = 2 * (18446744073709551616 ^ i * l.getD i 0):=by ac_rfl
    rw [e1,Nat.mul_add]
    rw [e2] at this
    rw [Nat.mul_comm c] at hI
    omega
   have q1:=fun (_:Unit)=>w1
   have q2:=fun (_:Unit)=>hcz
   clear hta hI w1 w3 hy hcz
   generalize l.getD i 0 = x at *
   repeat' first|refine lue hxe ?_|refine nsre (q2 ()) ?_|refine nsl ?_|refine nore (q1 ()) ?_ (ha:=Nat.mod_lt _ (Nat.pos_of_ne_zero (by decide)))|(refine wo ?_;first|(refine ao ?_;first|refine aw ?_|refine oa ?_)|refine sou ?_|refine oa ?_|refine lnm ?_|refine ixmn ?_)|(refine gc ?_;first|(refine ci (fun hB=>?_) (fun hB=>?_) <;> try (exfalso;omega)))|refine sq ?_|refine rg ?_|refine xc ?_|refine nl ?_|refine sk ?_|refine bk ?_|refine xb ?_
   exact lp ⟨i + 1,cz,nS,ys.set i y⟩ ⟨⟨by dsimp only;rw [List.length_set];exact h1,hi,(pk ()).1⟩,hdy.set w2,fun j h=>by
    dsimp only at h ⊢
    rw [← hj j (by omega)]
    simp [List.getD_eq_getElem?_getD,show ¬ i = j by omega],(pk ()).2⟩ (hlt:=by clear q1 q2 pk;dsimp only;omega)
  ·obtain rfl:i = l.length:=by omega
   rw [nv_take_all (by omega),nv_take_all (Nat.le_refl _)] at hI
   have hn:nv ys = 2 * nv l + 0:=by
    rcases Nat.eq_zero_or_pos c with h0 | h0
    ·subst h0;omega
    ·obtain rfl:c = 1:=by omega
     have:=hlt
     simp at this
     omega
   clear hI
   repeat' first|(refine wo ?_;first|(refine ao ?_;first|refine oa ?_)|refine oa ?_|refine lnm ?_)|(refine gc ?_;first|(refine ci (fun hB=>?_) (fun hB=>?_) <;> try (exfalso;omega)))|refine sq ?_|refine rg ?_|refine xc ?_|refine nl ?_|refine xe ?_
   exact e0 ⟨ys,rfl,h1,hdy,hn⟩
end Go.Art
namespace Go.Art
open Go Go.Proofs Go.RowKit
theorem nv_zeros (a:List Nat) (k:Nat):nv (a ++ List.replicate k 0) = nv a:=by rw [nv_app,nv_rep,Nat.mul_zero,Nat.add_zero]
theorem zero_step (l:List Nat) {i:Nat} (h:i < l.length):(List.replicate i 0 ++ l.drop i).set i 0 = List.replicate (i + 1) 0 ++ l.drop (i + 1):=by
 rw [List.set_append_right _ _ (by simp),List.length_replicate,Nat.sub_self,List.drop_eq_getElem_cons h,List.set_cons_zero,List.replicate_succ',List.append_assoc]
 rfl
theorem Bt_lt {a b x y:Nat} (ha:Bt a x) (hb:Bt b y) (h:x < y):a < b:=by
 rcases hb.2 with h0 | h0
 ·omega
 ·exact Nat.lt_of_lt_of_le ha.1 (Nat.le_trans (Nat.pow_le_pow_right (by decide) (by omega)) h0)
theorem Bt_first {a b x y:Nat} (ha:Bt a x) (hb:Bt b y) (h:y ≤ x) (h0:b ≠ 0):a / 2 ^ (x - y + 1) < b:=by
 have hy:y ≠ 0:=fun e=>by subst e;have:=hb.1;simp at this;exact h0 this
 have h1:=hb.2.resolve_left hy
 refine Nat.lt_of_lt_of_le ?_ h1
 refine Nat.div_lt_of_lt_mul ?_
 rw [← Nat.pow_add,show x - y + 1 + (y - 1) = x by omega]
 exact ha.1
theorem bit_if (n:Nat):(if decide (n % 2 = 1) = true then 1 else 0) = n % 2:=by
 rcases Nat.mod_two_eq_zero_or_one n with h | h
 ·rw [h];rfl
 ·rw [h];rfl
theorem div_round {na nb i Q r:Nat} (hE:na / 2 ^ (i + 1) = Q * nb + r):na / 2 ^ i = 2 * Q * nb + (2 * r + na / 2 ^ i % 2):=by
 have:=bit_div na i
 rw [hE,Nat.mul_add] at this
 rw [Nat.mul_assoc]
 omega
theorem div_less {na nb i Q r:Nat} (hE:na / 2 ^ i = 2 * Q * nb + r) (h:nb ≤ r):na / 2 ^ i = (2 * Q + 1) * nb + (r - nb):=by
 rw [Nat.add_mul,Nat.one_mul];omega
theorem div_end {na nb Q r:Nat} (hE:na = Q * nb + r) (h:r < nb):Q = na / nb∧r = na % nb:=by
 have h0:0 < nb:=by omega
 rw [hE,Nat.mul_comm Q,Nat.mul_add_div h0,Nat.mul_add_mod,Nat.div_eq_of_lt h,Nat.mod_eq_of_lt h]
 exact ⟨rfl,rfl⟩
structure DvG where
 j:Nat
 qs:List Nat
 rs:List Nat
 Q:Nat
section
variable {P:Program} {E:Env P} {n:Sh} {X:Cx} {s:List K} {fr:Fr} {A:List Ch} {ops:Array Oper} {rest:List Oper} {d:Nat} {ty t t':TypeId} {pos:String} {after:Array Edge} {x:Operand}
theorem glo (h:TO E n X s ops (⟨some d,.load t x,ty,pos,after,none⟩ :: rest) fr A):TO E n X s ops (⟨some d,.load t x,ty,pos,after,none⟩ :: rest) fr A:=h
theorem gcv (h:TO E n X s ops (⟨some d,.convert t t' x,ty,pos,after,none⟩ :: rest) fr A):TO E n X s ops (⟨some d,.convert t t' x,ty,pos,after,none⟩ :: rest) fr A:=h
end
attribute [local irreducible] Fit pt own ro vw mpc lpt vels rels mow lrc dfr
theorem less3_tr (v1 v2:Value) (a b:List Nat) (ha:Dg a) (hb:Dg b) (hla:a.length ≤ 1099511627776) (hle:nv b ≤ nv a):Tr Tryz.prog 214 [v1,v2] [vw v2 (Us b)] [own T64 v1 (Us a)] fun _ D=>∃ l',D = [own T64 v1 (Us l')]∧l'.length = a.length∧Dg l'∧nv l' = nv a - nv b:=by
 have hS:=RSub_tr v1 v2 a b ha hb hla hle
 have hdl:(dg (nv a - nv b)).length ≤ a.length:=Nat.le_trans (dg_mono (Nat.sub_le _ _)) (dg_len_le ha)
 obtain ⟨d,hd⟩ : ∃ d,d = nv a - nv b:=⟨_,rfl⟩
 rw [← hd] at hS hdl ⊢
 refine Tr.enter env _ Tryz.func214 (by kernel_rfl) rfl Tryz.ntmps214 rfl (by repeat (first | exact has00 | refine has01 ?_)) fun w0=>?_
 refine TC.lenu (v:=v1) (l:=a) fun hll=>?_
 repeat' first|(refine gca ?_;first|(refine ca hS ?_;rintro _ _ ⟨o,rfl,ho,rfl⟩))|(refine wo ?_;first|refine oa ?_)|refine sq ?_|refine rg ?_|refine xc ?_|refine nl ?_|refine bk ?_
 refine TC.loop (ι:=Nat) (fun i=>[(6,I i)]) (fun i=>[own T64 v1 (Us (List.replicate i 0 ++ a.drop i))]) (fun i=>i ≤ a.length) (fun i=>a.length - i) 0 [0,4] (Nat.zero_le _) ?_ (hf:=by rw [List.replicate_zero,List.nil_append,List.drop_zero];exact fitA)
 intro i hi
 have hlen:(List.replicate i 0 ++ a.drop i).length = a.length:=by rw [List.length_append,List.length_replicate,List.length_drop];omega
 by_cases hlt:i < a.length
 ·have hz:=zero_step a hlt
  generalize List.replicate i 0 ++ a.drop i = ys at *
  repeat' first|refine sou (l:=ys) (a:=0) (j:=i) ?_|(refine wo ?_;first|(refine ao ?_;first|refine aw ?_|refine oa ?_)|refine oa ?_|refine lnm ?_|refine ixmn ?_)|(refine gc ?_;first|(refine ci (fun hB=>?_) (fun hB=>?_) <;> try (exfalso;omega)))|refine sq ?_|refine rg ?_|refine xc ?_|refine nl ?_|refine sk ?_|refine bk ?_|refine xb ?_
  exact lp (i + 1) hlt (hf:=by rw [← hz];exact fitA)
 ·obtain rfl:i = a.length:=by omega
  rw [List.drop_length,List.append_nil]
  obtain ⟨zs,hzs⟩ : ∃ zs,zs = List.replicate a.length 0:=⟨_,rfl⟩
  have hzl:zs.length = a.length:=by rw [hzs,List.length_replicate]
  have hfin:Unit→((dg d ++ zs.drop (dg d).length).length = a.length∧Dg (dg d ++ zs.drop (dg d).length)∧nv (dg d ++ zs.drop (dg d).length) = d):=fun _=>by
   refine ⟨by rw [List.length_append,List.length_drop];omega,(Dg_dg d).app ((by rw [hzs];exact Dg.rep _:Dg zs).drop _),?_⟩
   rw [hzs,List.drop_replicate,nv_zeros,nv_dg]
  rw [← hzs]
  clear hzs hlen
  repeat' first|refine cpf (v:=v1) (u:=o) (xs:=Us zs) (cs:=Us (dg d)) ?_ (hk:=by rw [Us_len,Us_len,hzl];exact hdl) (h1:=Us_one _)|(refine wo ?_;first|(refine ao ?_;first|refine oa ?_)|refine oa ?_|refine lnm ?_)|(refine gc ?_;first|(refine ci (fun hB=>?_) (fun hB=>?_) <;> try (exfalso;omega)))|refine sq ?_|refine rg ?_|refine xc ?_|refine nl ?_|refine xe ?_
  rw [Us_len,Us_drop,← Us_app]
  exact e0 ⟨_,rfl,(hfin ()).1,(hfin ()).2.1,(hfin ()).2.2⟩
set_option maxHeartbeats 4000000 in
theorem RDiv_tr (va vb:Value) (a b:List Nat) (ha:Dg a) (hb:Dg b) (hla:64 * a.length ≤ 16777216) (hlb:64 * b.length ≤ 16777216) (hb0:nv b ≠ 0):Tr Tryz.prog 180 [va,vb] [vw va (Us a),vw vb (Us b)] [] (DivR (nv a) (nv b)):=by
 have hTb:=RTrim_tr vb b hb (by omega)
 have hTa:=RTrim_tr va a ha (by omega)
 have hLa:=RLen_tr va a ha (by omega)
 have hbl:=dg_len_le hb
 have hLb:=fun v=>RLen_tr v (dg (nv b)) (Dg_dg _) (by omega)
 have hdb:=dg_len_pos hb0
 simp only [nv_dg] at hLb
 unfold DivR
 obtain ⟨nb,hnb⟩ : ∃ nb,nb = nv b:=⟨_,rfl⟩
 obtain ⟨na,hna⟩ : ∃ na,na = nv a:=⟨_,rfl⟩
 simp only [← hnb] at hTb hLb hbl hdb hb0 ⊢
 simp only [← hna] at hTa hLa ⊢
 refine Tr.enter env _ Tryz.func180 (by kernel_rfl) rfl Tryz.ntmps180 rfl (by repeat (first | exact has00 | refine has01 ?_)) fun w0=>?_
 refine TC.lenu (v:=va) (l:=a) fun hll=>?_
 repeat' first|(refine gca ?_;first|(refine ca hTb ?_;rintro bv _ ⟨hbv,rfl⟩)|(refine ca hLa ?_;rintro _ _ ⟨la,rfl,ba,lla,rfl⟩)|(refine ca (hLb bv) ?_;rintro _ _ ⟨lb,rfl,bb,llb,rfl⟩)|(refine ca hTa ?_;rintro rv _ ⟨hrv,rfl⟩))|(refine wo ?_;first|(refine ao ?_;first|refine aw ?_|refine oa ?_)|refine oa ?_|refine lnm ?_)|(refine gc ?_;first|(refine ci (fun hB=>?_) (fun hB=>?_) <;> try (exfalso;omega)))|refine sq ?_|refine rg ?_|refine xc ?_|refine nl ?_|refine sk ?_|refine rt ?_
 ·have hlt:=Bt_lt ba bb (by omega)
  rw [Nat.div_eq_of_lt hlt,Nat.mod_eq_of_lt hlt,dg_zero]
  refine TX.im (own_nil T64 _) ?_
  exact r3 ⟨nS,rv,rfl,rfl,hrv,rfl⟩
 obtain ⟨f,hf⟩ : ∃ f:Nat,f = la - lb:=⟨_,rfl⟩
 have hfi:(la:Int) - lb = f:=by omega
 rw [hfi]
 have h1st:=Bt_first ba bb (by omega) hb0
 rw [← hf] at h1st
 have hlb1:1 ≤ lb:=by
  rcases Nat.eq_zero_or_pos lb with h | h
  ·subst h;have:=bb.1;simp at this;omega
  ·exact h
 have hDn:=RDown_tr va a (f + 1) (by omega) ha (by omega)
 rw [← hna,show ((f + 1:Nat):Int) = (f:Int) + 1 by omega] at hDn
 have hfl:f < 64 * a.length:=by omega
 obtain ⟨c,hc⟩ : ∃ c,c = na / 2 ^ (f + 1):=⟨_,rfl⟩
 rw [← hc] at hDn h1st
 have hcl:(dg c).length ≤ (dg nb).length:=dg_mono (Nat.le_of_lt h1st)
 have pkc:=fun (_:Unit)=>hc
 have pkn:Unit→nb < 18446744073709551616 ^ (dg nb).length:=fun _=>(dg_len nb _).1 (Nat.le_refl _)
 clear hc hf hfi bb ba llb lla hTa hLa hLb hTb
 refine cutK (ι:=Value × Value) (fun i=>i.1.oneCell' = true∧i.2.oneCell' = true) (fun i=>[(0,va),(1,bv),(7,I f),(8,i.1),(9,i.2)]) (fun i=>[own T64 i.1 (Us (List.replicate a.length 0)),own T64 i.2 (Us (List.replicate ((dg nb).length + 1) 0)),own T64 bv (Us (dg nb)),vw va (Us a)]) ?_ (fun kb=>?_)
 rotate_left
 ·skip
  refine rs (fun w=>Sl w va (Us a)∧Sl w bv (Us (dg nb))) ?_ (fun w hw=>⟨has_sl (xs:=Us a) hw hasA,has_sl (xs:=Us (dg nb)) hw hasA⟩)
  refine tka 0 ?_
  refine tke 1 (v:=I a.length) (by rw [Us_len]) (fun w h=>R_len (E:=env) (xs:=Us a) rfl rfl h.1) ?_
  refine tka 3 ?_
  refine tke 4 (v:=I (dg nb).length) (by rw [Us_len]) (fun w h=>R_len (E:=env) (xs:=Us (dg nb)) rfl rfl h.2) ?_
  refine tkw 5 (((dg nb).length + 1:Nat):Int) ?_
  refine t2 2 6 ?_ ?_
  ·refine mku (m:=(a.length:Int)) (fun qv=>?_)
   rw [Int.toNat_natCast]
   refine TO.one (v:=qv) (xs:=Us (List.replicate a.length 0)) fun hqv=>?_
   refine nl ?_
   refine te (fun w hw=>⟨has_sl (xs:=Us a) hw hasA,has_sl (xs:=Us (dg nb)) hw hasA⟩) ?_
   refine tka 7 ?_
   refine t1 6 ?_
   refine mku (m:=(((dg nb).length + 1:Nat):Int)) (fun rv=>?_)
   rw [Int.toNat_natCast]
   refine TO.one (v:=rv) (xs:=Us (List.replicate ((dg nb).length + 1) 0)) fun hrv=>?_
   refine nl ?_
   refine te (fun w hw=>⟨has_sl (xs:=Us a) hw hasA,has_sl (xs:=Us (dg nb)) hw hasA⟩) ?_
   refine tka 8 ?_
   refine t0 ?_
   refine xc ?_
   exact kb (qv,rv) ⟨hqv,hrv⟩ _ _ (by (repeat (refine Sub.cons rfl (by first | rfl | go_num) ?_));exact Sub.nil) fitA
  ·refine mku (m:=(((dg nb).length + 1:Nat):Int)) (fun rv=>?_)
   rw [Int.toNat_natCast]
   refine TO.one (v:=rv) (xs:=Us (List.replicate ((dg nb).length + 1) 0)) fun hrv=>?_
   refine nl ?_
   refine te (fun w hw=>⟨has_sl (xs:=Us a) hw hasA,has_sl (xs:=Us (dg nb)) hw hasA⟩) ?_
   refine t1 2 ?_
   refine mku (m:=(a.length:Int)) (fun qv=>?_)
   rw [Int.toNat_natCast]
   refine TO.one (v:=qv) (xs:=Us (List.replicate a.length 0)) fun hqv=>?_
   refine nl ?_
   refine te (fun w hw=>⟨has_sl (xs:=Us a) hw hasA,has_sl (xs:=Us (dg nb)) hw hasA⟩) ?_
   refine tka 7 ?_
   refine tka 8 ?_
   refine t0 ?_
   refine xc ?_
   exact kb (qv,rv) ⟨hqv,hrv⟩ _ _ (by (repeat (refine Sub.cons rfl (by first | rfl | go_num) ?_));exact Sub.nil) fitA
 rintro ⟨qv,rv⟩ ⟨hqv,hrv⟩
 dsimp only at hqv hrv ⊢
 obtain ⟨zs,hzs⟩ : ∃ zs,zs = List.replicate ((dg nb).length + 1) 0:=⟨_,rfl⟩
 have hzl:zs.length = (dg nb).length + 1:=by rw [hzs,List.length_replicate]
 have hzD:Dg zs:=by rw [hzs];exact Dg.rep _
 have hz0:Unit→nv (dg c ++ zs.drop (dg c).length) = c:=fun _=>by rw [hzs,List.drop_replicate,nv_zeros,nv_dg]
 rw [← hzs]
 clear hzs
 repeat' first|(refine gca ?_;first|(refine ca hDn ?_;rintro _ _ ⟨cv,rfl,hcv,rfl⟩))|(refine cpf (v:=rv) (u:=cv) (xs:=Us zs) (cs:=Us (dg c)) ?_ (hk:=by rw [Us_len,Us_len,hzl];omega) (h1:=Us_one _);rw [Us_len,Us_drop,← Us_app])|(refine wo ?_;first|(refine ao ?_;first|refine aw ?_)|refine oa ?_)|refine sq ?_|refine rg ?_|refine xc ?_|refine nl ?_|refine bk ?_
 have hcz:(dg c ++ zs.drop (dg c).length).length = (dg nb).length + 1:=by rw [List.length_append,List.length_drop];omega
 refine TC.loop (ι:=DvG) (fun g=>[(12,I ((g.j:Int) - 1))]) (fun g=>[own T64 qv (Us g.qs),own T64 rv (Us g.rs)]) (fun g=>(g.j ≤ f + 1∧g.qs.length = a.length∧g.rs.length = (dg nb).length + 1)∧(Dg g.qs∧Dg g.rs)∧nv g.qs = g.Q * 2 ^ g.j∧na / 2 ^ g.j = g.Q * nb + nv g.rs∧nv g.rs < nb) (fun g=>g.j)
  ⟨f + 1,List.replicate a.length 0,dg c ++ zs.drop (dg c).length,0⟩ [0,1,8,9] ⟨⟨Nat.le_refl _,by simp,hcz⟩,⟨Dg.rep _,(Dg_dg c).app (hzD.drop _)⟩,by dsimp only;rw [nv_rep,Nat.zero_mul],by dsimp only;rw [hz0 (),Nat.zero_mul,Nat.zero_add];exact (pkc ()).symm,by dsimp only;rw [hz0 ()];exact h1st⟩ ?_ (hs:=by dsimp only;rw [show ((f + 1:Nat):Int) - 1 = (f:Int) by omega];(repeat (refine Sub.cons rfl (by first | rfl | go_num) ?_));exact Sub.nil)
 clear hz0 pkc hcz hzD hzl hcl h1st hDn
 rintro ⟨j,qs,rs,Q⟩ ⟨⟨h1,h2,h3⟩,⟨hdq,hdr⟩,hI,hE,hR⟩
 dsimp only at h1 h2 h3 hdq hdr hI hE hR ⊢
 rcases Nat.eq_zero_or_pos j with hj | hj
 ·subst hj
  rw [Nat.pow_zero,Nat.mul_one] at hI
  rw [Nat.pow_zero,Nat.div_one] at hE
  obtain ⟨k1,k2⟩:=div_end hE hR
  have hT1:=RTrim_tr qv qs hdq (by omega)
  have hT2:=RTrim_tr rv rs hdr (by omega)
  rw [hI,k1] at hT1
  rw [k2] at hT2
  clear hI hE k1 k2
  repeat' first|(refine gca ?_;first|(refine ca hT1 ?_;rintro q3 _ ⟨hq3,rfl⟩)|(refine ca hT2 ?_;rintro r3' _ ⟨hr3,rfl⟩))|(refine wo ?_;first|(refine ao ?_;first|refine oa ?_)|refine oa ?_)|(refine gc ?_;first|refine cf ?_)|refine sq ?_|refine rg ?_|refine xc ?_|refine nl ?_|refine xe ?_|refine rt ?_
  exact r3 ⟨q3,r3',rfl,hq3,hr3,rfl⟩
 obtain ⟨i,rfl⟩ : ∃ i,j = i + 1:=⟨j - 1,by omega⟩
 have hii:((i + 1:Nat):Int) - 1 = (i:Int):=by omega
 rw [hii]
 have hBt:=bit_tr va a i ha (by omega)
 rw [← hna] at hBt
 have hE2:=div_round hE
 obtain ⟨bt,hbt⟩ : ∃ bt,bt = na / 2 ^ i % 2:=⟨_,rfl⟩
 have hb2:bt ≤ 1:=by rw [hbt];omega
 have hTw:=twice_tr rv rs (decide (bt = 1)) hdr (by
  rw [hbt,bit_if,h3,Nat.pow_succ]
  have:=pkn ()
  omega)
 have hif:(if decide (bt = 1) = true then 1 else 0) = bt:=by rw [hbt];exact bit_if _
 rw [hif] at hTw
 rw [← hbt] at hBt hE2
 obtain ⟨y,hy1,hy2,hy3⟩:=set_bit hdq hI (i:=i) (by omega)
 have hqi:(i:Int) / 64 = ((i / 64:Nat):Int):=by omega
 have hpi:(i:Int) % 64 = ((i % 64:Nat):Int):=by omega
 obtain ⟨q0,hq0⟩ : ∃ q0,q0 = i / 64:=⟨_,rfl⟩
 obtain ⟨p0,hp0⟩ : ∃ p0,p0 = i % 64:=⟨_,rfl⟩
 rw [← hq0] at hqi hy1 hy3
 rw [← hp0] at hpi hy1
 have hp63:p0 < 64:=by omega
 have hq0l:q0 < qs.length:=by omega
 obtain ⟨pw,hpw⟩ : ∃ pw,pw = 2 ^ p0:=⟨_,rfl⟩
 have hpwl:pw < 18446744073709551616:=by
  have:=Nat.pow_lt_pow_right (a:=2) (by decide) hp63
  rw [← hpw] at this
  exact Nat.lt_of_lt_of_eq this rfl
 have hpw2:Unit→1 * 2 ^ (min ((p0:Int)).toNat 64) % 18446744073709551616 = pw:=fun _=>by
  rw [Int.toNat_natCast,Nat.min_eq_left (by omega),Nat.one_mul,← hpw,Nat.mod_eq_of_lt hpwl]
 rw [← hpw] at hy1
 have hx:=hdq.getD q0
 obtain ⟨x,hxe⟩ : ∃ x,qs.getD q0 0 = x:=⟨_,rfl⟩
 rw [hxe] at hy1 hx
 have py1:=fun (_:Unit)=>hy1
 have py3:=fun (_:Unit)=>hy3
 have pI:Unit→nv qs = 2 * Q * 2 ^ i:=fun _=>by rw [hI,Nat.pow_succ];ac_rfl
 have pE2:=fun (_:Unit)=>hE2
 have hrl:rs.length ≤ 1099511627776:=by omega
 have pF:Unit→(i ≤ f + 1∧qs.length = a.length∧rs.length = (dg nb).length + 1):=fun _=>⟨by omega,h2,h3⟩
 have hi40:i ≤ 1099511627776:=by omega
 have pR:Unit→(nv rs < nb∧bt ≤ 1):=fun _=>⟨hR,hb2⟩
 clear hy1 hy3 hI hE hE2 hpw hbt hif hii hq0 hp0 hll hla hlb hbl hdb hb0 hlb1 hfl h1 h2 h3 hj hnb hna hR hb2 pkn
 by_cases hge:nb ≤ 2 * nv rs + bt
 ·have pE3:Unit→_:=fun _=>div_less (pE2 ()) hge
  have hcm:∀ rs2,nv rs2 = 2 * nv rs + bt→¬ cmpN (nv rs2) (nv (dg nb)) < 0:=fun rs2 h=>by rw [cmpN_lt,h,nv_dg];omega
  repeat' first|(refine gca ?_;first|(refine ca hBt ?_;rintro _ _ ⟨rfl,rfl⟩)|(refine ca hTw ?_;rintro _ _ ⟨rs2,rfl,hl2,hd2,hn2⟩)|(refine ca (RCmp_tr rv bv rs2 (dg nb) hd2 (Dg_dg _)) ?_;rintro _ _ ⟨rfl,rfl⟩;have hc2:=hcm rs2 hn2;generalize cmpN (nv rs2) (nv (dg nb)) = cm at hc2 ⊢)|(refine ca (less3_tr rv bv rs2 (dg nb) hd2 (Dg_dg _) (by omega) (by rw [hn2,nv_dg];exact hge)) ?_;rintro _ _ ⟨rs3,rfl,hl3,hd3,hn3⟩))|(refine ao ?_;first | (refine adiv ?_;rw [hqi]) | (refine amod ?_;rw [hpi]))|(refine gcv ?_;refine ntu (m:=(p0:Int)) ?_;rw [Int.toNat_natCast])|(refine glo ?_;refine lue hxe ?_)|(refine nao ?_;first | refine nsle (hpw2 ()) ?_ | refine nore (py1 ()) ?_)|(refine wo ?_;first|(refine ao ?_;first|refine aw ?_|refine oa ?_)|refine sou ?_|refine oa ?_|refine ixmn ?_)|(refine gc ?_;first|refine ct ?_|(refine ci (fun hB=>?_) (fun hB=>?_) <;> try (exfalso;omega)))|refine sq ?_|refine rg ?_|refine xc ?_|refine nl ?_|refine sk ?_|refine bk ?_|refine xb ?_
  exact lp ⟨i,qs.set q0 y,rs3,2 * Q + 1⟩ ⟨⟨(pF ()).1,by dsimp only;rw [List.length_set];exact (pF ()).2.1,by dsimp only;rw [hl3,hl2];exact (pF ()).2.2⟩,⟨hdq.set hy2,hd3⟩,py3 (),by dsimp only;rw [hn3,hn2,nv_dg];exact pE3 (),by dsimp only;rw [hn3,hn2,nv_dg];have:=pR ();omega⟩ (hlt:=by dsimp only;omega)
 ·have hcm:∀ rs2,nv rs2 = 2 * nv rs + bt→cmpN (nv rs2) (nv (dg nb)) < 0:=fun rs2 h=>by rw [cmpN_lt,h,nv_dg];omega
  repeat' first|(refine gca ?_;first|(refine ca hBt ?_;rintro _ _ ⟨rfl,rfl⟩)|(refine ca hTw ?_;rintro _ _ ⟨rs2,rfl,hl2,hd2,hn2⟩)|(refine ca (RCmp_tr rv bv rs2 (dg nb) hd2 (Dg_dg _)) ?_;rintro _ _ ⟨rfl,rfl⟩;have hc2:=hcm rs2 hn2;generalize cmpN (nv rs2) (nv (dg nb)) = cm at hc2 ⊢))|(refine wo ?_;first|(refine ao ?_;first|refine aw ?_|refine oa ?_)|refine oa ?_)|(refine gc ?_;first|refine ct ?_|(refine ci (fun hB=>?_) (fun hB=>?_) <;> try (exfalso;omega)))|refine sq ?_|refine rg ?_|refine xc ?_|refine nl ?_|refine sk ?_|refine bk ?_|refine xb ?_
  exact lp ⟨i,qs,rs2,2 * Q⟩ ⟨⟨(pF ()).1,(pF ()).2.1,by dsimp only;rw [hl2];exact (pF ()).2.2⟩,⟨hdq,hd2⟩,pI (),by dsimp only;rw [hn2];exact pE2 (),by dsimp only;rw [hn2];have:=pR ();omega⟩ (hlt:=by dsimp only;omega)
end Go.Art
namespace Go.Art
open Go Go.Proofs Go.RowKit
attribute [local irreducible] Fit pt own ro vw mpc lpt vels rels mow lrc dfr
theorem RGcd_tr (va vb:Value) (a b:List Nat) (ha:Dg a) (hb:Dg b) (hla:a.length ≤ 262144) (hlb:b.length ≤ 262144):Tr Tryz.prog 179 [va,vb] [vw va (Us a),vw vb (Us b)] [] fun u D=>u.oneCell' = true∧D = [own T64 u (Us (dg (Nat.gcd (nv a) (nv b))))]:=by
 have h1:=dg_len_le ha
 have h2:=dg_len_le hb
 obtain ⟨na,hna⟩ : ∃ na,na = nv a:=⟨_,rfl⟩
 obtain ⟨nb,hnb⟩ : ∃ nb,nb = nv b:=⟨_,rfl⟩
 have hTa:=RTrim_tr va a ha (by omega)
 have hTb:=RTrim_tr vb b hb (by omega)
 rw [← hna] at h1 hTa ⊢
 rw [← hnb] at h2 hTb ⊢
 clear hna hnb
 refine Tr.enter env _ Tryz.func179 (by kernel_rfl) rfl Tryz.ntmps179 rfl (by repeat (first | exact has00 | refine has01 ?_)) fun w0=>?_
 repeat' first|(refine gca ?_;first|(refine ca hTa ?_;rintro u1 _ ⟨hu1,rfl⟩)|(refine ca hTb ?_;rintro u2 _ ⟨hu2,rfl⟩))|(refine wo ?_;first|refine oa ?_)|refine sq ?_|refine rg ?_|refine xc ?_|refine nl ?_|refine bk ?_
 refine TC.loop (ι:=Nat × Nat × Value × Value) (fun k=>[(0,k.2.2.1),(1,k.2.2.2)]) (fun k=>[own T64 k.2.2.1 (Us (dg k.1)),own T64 k.2.2.2 (Us (dg k.2.1))]) (fun k=>(dg k.1).length ≤ 262144∧(dg k.2.1).length ≤ 262144∧Nat.gcd k.1 k.2.1 = Nat.gcd na nb∧k.2.2.1.oneCell' = true∧k.2.2.2.oneCell' = true) (fun k=>k.2.1) (na,nb,u1,u2) [] ⟨by dsimp only;omega,by dsimp only;omega,rfl,hu1,hu2⟩ ?_
 rintro ⟨p,q,v1,v2⟩ ⟨g1,g2,g3,g4,g5⟩
 dsimp only at g1 g2 g3 g4 g5 ⊢
 by_cases hq:q = 0
 ·subst hq
  have hl:(dg 0).length = 0:=by rw [dg_zero];rfl
  rw [Nat.gcd_zero_right] at g3
  rw [← g3]
  repeat' first|(refine wo ?_;first|(refine ao ?_;first|refine oa ?_)|refine oa ?_|refine lnm ?_)|(refine gc ?_;first|(refine ci (fun hB=>?_) (fun hB=>?_) <;> try (exfalso;omega)))|refine sq ?_|refine rg ?_|refine xc ?_|refine nl ?_|refine xe ?_|refine rt ?_
  exact r1 ⟨g4,rfl⟩
 ·have hl:=dg_len_pos hq
  have hD:=RDiv_tr v1 v2 (dg p) (dg q) (Dg_dg p) (Dg_dg q) (by omega) (by omega) (by rw [nv_dg];exact hq)
  rw [nv_dg,nv_dg] at hD
  have hm:p % q < q:=Nat.mod_lt _ (by omega)
  have hml:=Nat.le_trans (dg_mono (Nat.le_of_lt hm)) g2
  have hg:Nat.gcd q (p % q) = Nat.gcd na nb:=by rw [← g3,Nat.gcd_comm p q,Nat.gcd_rec q p,Nat.gcd_comm]
  obtain ⟨r,hr⟩ : ∃ r,r = p % q:=⟨_,rfl⟩
  unfold DivR at hD
  rw [← hr] at hm hml hg hD
  repeat' first|(refine gca ?_;first|(refine ca hD ?_;rintro _ _ ⟨qv,rv,rfl,hqv,hrv,rfl⟩))|(refine wo ?_;first|(refine ao ?_;first|refine oa ?_)|refine oa ?_|refine lnm ?_)|(refine gc ?_;first|(refine ci (fun hB=>?_) (fun hB=>?_) <;> try (exfalso;omega)))|refine sq ?_|refine rg ?_|refine xc ?_|refine nl ?_|refine sk ?_|refine bk ?_|refine xb ?_
  exact lp (q,r,v2,rv) ⟨g2,hml,hg,g5,hrv⟩
theorem RIMake_tr (b:Bool) (v:Value) (l:List Nat) (hd:Dg l) (hl:l.length ≤ 1099511627776):Tr Tryz.prog 111 [.bool b,v] [vw v (Us l)] [] (IR (sg b (nv l))):=by
 have hlp:0 < (dg (nv l)).length ↔ 0 < nv l:=⟨fun h=>Nat.pos_of_ne_zero fun e=>by rw [e,dg_zero] at h;simp at h,fun h=>dg_len_pos (by omega)⟩
 have hll:=dg_len_le hd
 unfold IR
 rw [sg_abs,sg_neg]
 refine Tr.enter env _ Tryz.func111 (by kernel_rfl) rfl Tryz.ntmps111 rfl (by repeat (first | exact has00 | refine has01 ?_)) fun w0=>?_
 repeat' first|(refine gca ?_;first|(refine ca (RTrim_tr v l hd (by omega)) ?_;rintro o _ ⟨ho,rfl⟩))|refine al fun c=>?_|refine bdz ?_|refine srz ?_|(refine wo ?_;first|(refine ao ?_;first|refine oa ?_)|refine oa ?_|refine lnm ?_|refine gy ?_|refine gn ?_|(refine gs (fun hB=>?_) (fun hB=>?_) <;> try (exfalso;omega)))|refine sq ?_|refine rg ?_|refine xc ?_|refine nl ?_|refine rt ?_
 ·subst hB
  exact rca1 (b:=c) (cs:=[.bool (decide (0 < ((dg (nv l)).length:Int))),o]) (vs:=[.bool (decide (0 < ((dg (nv l)).length:Int))),o]) (T:=TIt) ⟨o,by simp [hlp],ho,rfl⟩
 ·subst hB
  exact rca1 (b:=c) (cs:=[.bool false,o]) (vs:=[.bool false,o]) (T:=TIt) ⟨o,rfl,ho,rfl⟩
theorem RICheck_tr (z:Int) (o:Value):Tr Tryz.prog 148 [iv z o] [vw o (Us (dz z))] [] fun u D=>u = I 0∧D = []:=by
 have hC:=RNCheck_tr o (dz z)
 have hk:=icheck_ok z
 rw [if_neg fun h=>hk (.inr h)] at hC
 have hk2:z < 0→(dz z).length ≠ 0:=fun h1 h2=>hk (.inl ⟨decide_eq_true h1,h2⟩)
 clear hk
 refine Tr.enter env _ Tryz.func148 (by kernel_rfl) rfl Tryz.ntmps148 rfl (by repeat (first | exact has00 | refine has01 ?_)) fun w0=>?_
 repeat' first|(refine gca ?_;first|(refine ca hC ?_;rintro _ _ ⟨rfl,rfl⟩))|refine bx fun q=>?_|(refine wo ?_;first|(refine ao ?_;first|refine oa ?_)|refine oa ?_|refine ld ?_|refine lnm ?_|refine gy ?_|refine gn ?_|(refine gsi (fun hB=>?_) (fun hB=>?_) <;> try (exfalso;omega)))|(refine gc ?_;first|refine cf ?_|(refine ci (fun hB=>?_) (fun hB=>?_) <;> try (exfalso;omega)))|refine sq ?_|refine rg ?_|refine xc ?_|refine nl ?_|refine sk ?_|refine rt ?_
 all_goals first | (exfalso;have:=hk2 (by assumption);omega) | exact r1 ⟨rfl,rfl⟩
theorem Rlowest_tr (b:Bool) (o dv:Value) (l m:List Nat) (hl:Dg l) (hm:Dg m) (hll:l.length ≤ 262144) (hlm:m.length ≤ 262144) (hm0:nv m ≠ 0) :
  Tr Tryz.prog 149 [.agg #[.bool b,o],dv] [vw o (Us l),vw dv (Us m)] [] (FQ (mkRat (sg b (nv l)) (nv m))):=by
 have e1:=mk_abs (sg b (nv l)) hm0
 have e2:=mk_den (sg b (nv l)) hm0
 have e3:=sg_mk b (nv l) hm0
 rw [sg_abs] at e1 e2
 have hg0:Nat.gcd (nv l) (nv m) ≠ 0:=Nat.ne_of_gt (Nat.gcd_pos_of_pos_right _ (by omega))
 have hgl:(dg (Nat.gcd (nv l) (nv m))).length ≤ m.length:=dg_le hm (Nat.gcd_le_right _ (by omega))
 have hB1:=fun g=>RDiv_tr o g l (dg (Nat.gcd (nv l) (nv m))) hl (Dg_dg _) (by omega) (by omega) (by rw [nv_dg];exact hg0)
 have hB2:=fun g=>RDiv_tr dv g m (dg (Nat.gcd (nv l) (nv m))) hm (Dg_dg _) (by omega) (by omega) (by rw [nv_dg];exact hg0)
 have hG:=RGcd_tr o dv l m hl hm (by omega) (by omega)
 have hql:(dg (nv l / Nat.gcd (nv l) (nv m))).length ≤ l.length:=dg_le hl (Nat.div_le_self _ _)
 have hM:=fun u=>RIMake_tr b u (dg (nv l / Nat.gcd (nv l) (nv m))) (Dg_dg _) (by omega)
 simp only [nv_dg] at hB1 hB2 hM
 unfold IR at hM
 unfold DivR at hB1 hB2
 simp only [sg_abs,sg_neg] at hM
 simp only [← e3] at hM
 simp only [← e2] at hB2
 simp only [← e1] at hB1 hM
 obtain ⟨q,hq⟩ : ∃ q,q = mkRat (sg b (nv l)) (nv m):=⟨_,rfl⟩
 obtain ⟨g,hgg⟩ : ∃ g,g = Nat.gcd (nv l) (nv m):=⟨_,rfl⟩
 simp only [← hq] at hB1 hB2 hM ⊢
 simp only [← hgg] at hB1 hB2 hG
 generalize nv l % g = m1 at *
 generalize nv m % g = m2 at *
 clear e1 e2 e3 hg0 hgl hql hq hgg
 refine Tr.enter env _ Tryz.func149 (by kernel_rfl) rfl Tryz.ntmps149 rfl (by repeat (first | exact has00 | refine has01 ?_)) fun w0=>?_
 repeat' first|(refine gca ?_;first|(refine ca hG ?_;rintro gv _ ⟨hgv,rfl⟩)|(refine ca (hB1 gv) ?_;rintro _ _ ⟨u1,u2,rfl,hu1,hu2,rfl⟩)|(refine ca (hB2 gv) ?_;rintro _ _ ⟨u3,u4,rfl,hu3,hu4,rfl⟩)|(refine ca (hM u1) ?_;rintro _ _ ⟨u5,rfl,hu5,rfl⟩))|refine bx fun q1=>?_|refine al fun c=>?_|refine bdm ?_|refine srz ?_|(refine wo ?_;first|refine oa ?_|refine ld ?_)|refine sq ?_|refine rg ?_|refine xc ?_|refine nl ?_|refine rt ?_
 exact rca1 (cs:=[.bool (decide (q.num < 0)),u5,u3]) (vs:=[.bool (decide (q.num < 0)),u5,u3]) (T:=TRt) ⟨u5,u3,rfl,hu5,hu3,rfl⟩
theorem RFMake_tr (z:Int) (o dv:Value) (m:List Nat) (hm:Dg m) (hll:(dz z).length ≤ 262144) (hlm:m.length ≤ 262144) (hm0:nv m ≠ 0) :
  Tr Tryz.prog 110 [iv z o,dv] [vw o (Us (dz z)),vw dv (Us m)] [] (FQ2 (mkRat z (nv m)) 0):=by
 have hC:=RICheck_tr z o
 have hT:=RTrim_tr dv m hm (by omega)
 have hpos:=dg_len_pos hm0
 have hL:=Rlowest_tr (decide (z < 0)) o dv (dz z) m (Dg_dg _) hm hll hlm hm0
 have hs:sg (decide (z < 0)) (nv (dz z)) = z:=by
  unfold sg;rw [nv_dg]
  by_cases h:z < 0
  ·rw [if_pos (by simpa using h)];omega
  ·rw [if_neg (by simpa using h)];omega
 rw [hs] at hL
 unfold FQ at hL
 obtain ⟨q,hq⟩ : ∃ q,q = mkRat z (nv m):=⟨_,rfl⟩
 rw [← hq] at hL ⊢
 refine Tr.enter env _ Tryz.func110 (by kernel_rfl) rfl Tryz.ntmps110 rfl (by repeat (first | exact has00 | refine has01 ?_)) fun w0=>?_
 repeat' first|(refine gca ?_;first|(refine ca hC ?_;rintro _ _ ⟨rfl,rfl⟩)|(refine ca hT ?_;rintro tv _ ⟨htv,rfl⟩)|(refine ca hL ?_;rintro _ _ ⟨vn,vd,rfl,hvn,hvd,rfl⟩))|refine bx fun q1=>?_|refine al fun c=>?_|refine lda ?_|refine srz ?_|(refine wo ?_;first|(refine ao ?_;first|refine oa ?_)|refine oa ?_|refine lnm ?_)|(refine gc ?_;first|refine cf ?_|(refine ci (fun hB=>?_) (fun hB=>?_) <;> try (exfalso;omega)))|refine sq ?_|refine rg ?_|refine xc ?_|refine nl ?_|refine sk ?_|refine bk ?_|refine rt ?_|refine xb ?_
 exact rca (cs:=[.bool (decide (q.num < 0)),vn,vd]) (vs:=[.bool (decide (q.num < 0)),vn,vd]) (T:=TRt) ⟨vn,vd,rfl,hvn,hvd,rfl⟩
theorem RFalling_tr (n k:Nat) (hn:n ≤ 65536) (hk:k ≤ n):Tr Tryz.prog 56 [I n,I k] [] [] fun u D=>eNat u D (fall n k) 0:=by
 refine Tr.enter env _ Tryz.func56 (by kernel_rfl) rfl Tryz.ntmps56 rfl (by repeat (first | exact has00 | refine has01 ?_)) fun w0=>?_
 repeat' first|(refine gca ?_;first|(refine ca (ROf_tr 1 (by decide)) ?_;rintro o _ ⟨ho,rfl⟩))|(refine wo ?_;first|(refine ao ?_;first|refine oa ?_)|refine oa ?_|refine gy ?_|(refine gsi (fun hB=>?_) (fun hB=>?_) <;> try (exfalso;omega)))|(refine gc ?_;first|refine cf ?_|(refine ci (fun hB=>?_) (fun hB=>?_) <;> try (exfalso;omega)))|refine sq ?_|refine rg ?_|refine xc ?_|refine nl ?_|refine sk ?_|refine bk ?_
 refine TC.loop (ι:=Nat × Value) (fun g=>[(7,I g.1),(6,g.2)]) (fun g=>[own T64 g.2 (Us (dg (fall n g.1)))]) (fun g=>g.1 ≤ k∧g.2.oneCell' = true) (fun g=>k - g.1) (0,o) [0,1] ⟨Nat.zero_le _,ho⟩ ?_ (hf:=by dsimp only;rw [show fall n 0 = 1 from rfl];exact fitA)
 rintro ⟨i,v⟩ ⟨hi,hv⟩
 dsimp only at hi hv ⊢
 have hG:=RGrow_tr v (dg (fall n i)) (n - i) (Dg_dg _) (by omega) (by have:=fall_len hn i;omega)
 rw [nv_dg] at hG
 have hf:fall n i * (n - i) = fall n (i + 1):=rfl
 rw [hf] at hG
 by_cases hlt:i < k
 ·repeat' first|(refine gca ?_;first|(refine ca hG ?_;rintro v2 _ ⟨hv2,rfl⟩))|(refine ntu (m:=(n:Int) - i) ?_;rw [show ((n:Int) - i).toNat = n - i by omega])|(refine wo ?_;first|(refine ao ?_;first|refine aw ?_|refine oa ?_)|refine oa ?_)|(refine gc ?_;first|(refine ci (fun hB=>?_) (fun hB=>?_) <;> try (exfalso;omega)))|refine sq ?_|refine rg ?_|refine xc ?_|refine nl ?_|refine sk ?_|refine bk ?_|refine xb ?_
  exact lp (i + 1,v2) ⟨hlt,hv2⟩
 ·obtain rfl:i = k:=by omega
  repeat' first|(refine wo ?_;first|(refine ao ?_;first|refine oa ?_)|refine oa ?_)|(refine gc ?_;first|(refine ci (fun hB=>?_) (fun hB=>?_) <;> try (exfalso;omega)))|refine sq ?_|refine rg ?_|refine xc ?_|refine nl ?_|refine xe ?_|refine rt ?_
  exact r2 ⟨v,rfl,hv,rfl⟩
theorem RSoTotal_tr (s:Value) (t:List Int) (h1:1 ≤ t.length∧t.length ≤ 65536) (hw:∀ w ∈ t,0 ≤ w∧w ≤ 16777215):Tr Tryz.prog 86 [s] [vw s (Is t)] [] fun v D=>v = I t.sum∧D = []:=by
 refine Tr.enter env _ Tryz.func86 (by kernel_rfl) rfl Tryz.ntmps86 rfl (by repeat (first | exact has00 | refine has01 ?_)) fun w0=>?_
 repeat' first|(refine wo ?_;first|refine oa ?_)|refine sq ?_|refine rg ?_|refine xc ?_|refine nl ?_|refine bk ?_
 refine TC.loop (ι:=Nat) (fun i=>[(4,I i),(3,I (t.take i).sum)]) (fun _=>[]) (fun i=>i ≤ t.length) (fun i=>t.length - i) 0 [0] (by simp) ?_
 rintro i h2
 by_cases hi:i < t.length
 ·have hs:=take_sum hi
  have hb:=hw _ (mem_getD.2 ⟨i,hi,rfl⟩)
  have hc:=sum_bound (t:=t.take i) fun w h=>hw w (List.mem_of_mem_take h)
  rw [List.length_take] at hc
  generalize hy:t.getD i 0 = y at *
  repeat' first|refine lie hy ?_|(refine wo ?_;first|(refine ao ?_;first|refine aw ?_|refine oa ?_)|refine oa ?_|refine lnm ?_|refine ixmn ?_)|(refine gc ?_;first|(refine ci (fun hB=>?_) (fun hB=>?_) <;> try (exfalso;omega)))|refine sq ?_|refine rg ?_|refine xc ?_|refine nl ?_|refine sk ?_|refine bk ?_|refine xb ?_
  exact lp (i + 1) (by omega) (hs:=by rw [hs];(repeat (refine Sub.cons rfl (by first | rfl | go_num) ?_));exact Sub.nil)
 ·obtain rfl:i = t.length:=by omega
  rw [List.take_length]
  repeat' first|(refine wo ?_;first|(refine ao ?_;first|refine oa ?_)|refine oa ?_|refine lnm ?_)|(refine gc ?_;first|(refine ci (fun hB=>?_) (fun hB=>?_) <;> try (exfalso;omega)))|refine sq ?_|refine rg ?_|refine xc ?_|refine nl ?_|refine xe ?_|refine rt ?_
  exact r1 ⟨rfl,rfl⟩
end Go.Art
namespace Go.Art
open Go Go.Proofs Go.RowKit
def pasc (n:Nat):List (List Int):=(List.range (n + 1)).map fun j=>Zs (dg (chs n j))
theorem pasc_len (n:Nat):(pasc n).length = n + 1:=by simp [pasc]
theorem pasc_get (n j:Nat) (h:j ≤ n):(pasc n).getD j [] = Zs (dg (chs n j)):=by
 simp [pasc,List.getD_eq_getElem?_getD,List.getElem?_range (show j < n + 1 by omega)]
theorem pasc_take (n i:Nat) (h:i ≤ n):(pasc n).take (i + 1) = (pasc n).take i ++ [Zs (dg (chs n i))]:=by
 rw [take_succ' (by rw [pasc_len];omega) [],pasc_get n i h]
abbrev TNN:TypeId:=89
theorem owl_takeF {e:TypeId} {g:Int→Value} {hs:List Value} {ls:List (List Int)} {A F:List Ch} (hl:hs.length = ls.length) {i:Nat} (h:i < ls.length) (hf:Fit A [owl e g hs ls] F):Im A (own e (hs.getD i nS) ((ls.getD i []).map g) :: bnd ((owls e g hs ls).eraseIdx i) :: F):=Im.trans hf (owl_take hl h F)
structure NxG where
 i:Nat
 o:Value
 hs:List Value
attribute [local irreducible] Fit pt own ro vw mpc lpt vels rels mow lrc dfr
attribute [local irreducible] lmp lme mit velg relg bnd owl
theorem Rnext_tr (v:Value) (hs:List Value) (n:Nat) (hn:n ≤ 65536):Tr Tryz.prog 152 [v] [vw v hs,velg wU hs (pasc n)] [] fun u D=>∃ hs',u.oneCell' = true∧hs'.length = n + 2∧D = [own TN u hs',owl T64 wU hs' (pasc (n + 1))]:=by
 have hpl:=pasc_len n
 have hO:=ROf_tr 1 (by decide)
 have e1:dg 1 = dg (chs (n + 1) 0):=by rw [chs_zero]
 rw [e1,Us_eq] at hO
 refine Tr.enter env _ Tryz.func152 (by kernel_rfl) rfl Tryz.ntmps152 rfl (by repeat (first | exact has00 | refine has01 ?_)) fun w0=>?_
 refine TC.elg (g:=wU) (hs:=hs) (ls:=pasc n) (fun hll=>?_)
 repeat' first|(refine gca ?_;first|(refine ca hO ?_;rintro o1 _ ⟨ho1,rfl⟩))|(refine sli (vs:=[o1]) (fun q1=>?_) (h1:=one_cons ho1 one_nil);refine TO.one (v:=q1) (xs:=[o1]) fun hq1=>?_)|(refine wo ?_;first|refine oa ?_)|refine sq ?_|refine rg ?_|refine xc ?_|refine nl ?_|refine bk ?_
 refine TC.im (owl_nil (e:=T64) (g:=wU) _) ?_
 refine TC.im (owl_push (hs:=[]) (ls:=[]) (v:=o1) (l:=Zs (dg (chs (n + 1) 0))) rfl fitA) ?_
 refine TC.loop (ι:=NxG) (fun g=>[(4,I g.i),(3,g.o)]) (fun g=>[own TN g.o g.hs,owl T64 wU g.hs ((pasc (n + 1)).take g.i)]) (fun g=>(1 ≤ g.i∧g.i ≤ n + 1)∧g.hs.length = g.i∧g.o.oneCell' = true) (fun g=>n + 1 - g.i) ⟨1,q1,[o1]⟩ [0] ⟨⟨Nat.le_refl _,by dsimp only;omega⟩,rfl,hq1⟩ ?_ (hf:=by dsimp only;rw [show (pasc (n + 1)).take 1 = [] ++ [Zs (dg (chs (n + 1) 0))] from pasc_take (n + 1) 0 (Nat.zero_le _)];exact fitA)
 rintro ⟨i,o,hs2⟩ ⟨⟨hi1,hi2⟩,h2,ho⟩
 dsimp only at hi1 hi2 h2 ho ⊢
 by_cases hlt:i < n + 1
 ·have hH:∀ (F:List Ch) (j:Nat),j ≤ n→Has F (velg wU hs (pasc n))→Has F (vw (hs.getD j nS) (Us (dg (chs n j)))):=fun F j hj h=>by
   have:=has_elg h (i:=j) (by omega)
   rwa [pasc_get n j hj,← Us_eq] at this
  have hk:((i:Int) - 1).toNat = i - 1:=by omega
  have hA:=RAdd_tr (hs.getD ((i:Int) - 1).toNat nS) (hs.getD i nS) (dg (chs n (i - 1))) (dg (chs n i)) (Dg_dg _) (Dg_dg _) (by have:=chs_len n (i - 1);omega) (by have:=chs_len n i;omega)
  have hsum:chs n (i - 1) + chs n i = chs (n + 1) i:=by
   obtain ⟨k,rfl⟩ : ∃ k,i = k + 1:=⟨i - 1,by omega⟩
   rfl
  rw [nv_dg,nv_dg,hsum,Us_eq (dg (chs (n + 1) i))] at hA
  have hpt:=pasc_take (n + 1) i (by omega)
  have hll2:((pasc (n + 1)).take i).length = i:=by rw [List.length_take,pasc_len];omega
  have hg1:hs[((i:Int) - 1).toNat]? = some (hs.getD ((i:Int) - 1).toNat nS):=by rw [List.getD_eq_getElem?_getD,List.getElem?_eq_getElem (by omega)];rfl
  have hg2:hs[i]? = some (hs.getD i nS):=by rw [List.getD_eq_getElem?_getD,List.getElem?_eq_getElem (by omega)];rfl
  repeat' first|(refine wo ?_;first|(refine ao ?_;first|refine oa ?_)|refine oa ?_|refine ln ?_)|(refine gc ?_;first|(refine ci (fun hB=>?_) (fun hB=>?_) <;> try (exfalso;omega)))|refine sq ?_|refine rg ?_|refine xc ?_|refine nl ?_|refine sk ?_|refine bk ?_
  refine rs (fun w=>Sl w v hs) ?_ (fun w hw=>has_sl (xs:=hs) hw hasA)
  refine tka 0 ?_
  refine tka 1 ?_
  refine tka 2 ?_
  refine tkw 3 ((i:Int) - 1) ?_
  refine tk 4 (v:=.pointer (some (addrAt v ((i:Int) - 1).toNat))) (fun w h=>R_idx (E:=env) (i:=(i:Int) - 1) rfl rfl rfl rfl h ⟨by omega,by omega⟩) ?_
  refine tk 5 (v:=hs.getD ((i:Int) - 1).toNat nS) (fun w h=>R_load (E:=env) rfl rfl rfl (h.cell hg1)) ?_
  refine tka 6 ?_
  refine tka 7 ?_
  refine tk 8 (v:=.pointer (some (addrAt v i))) (fun w h=>R_idx (E:=env) (i:=(i:Int)) rfl rfl rfl rfl h ⟨by omega,by omega⟩) ?_
  refine tk 9 (v:=hs.getD i nS) (fun w h=>R_load (E:=env) rfl rfl rfl (h.cell hg2)) ?_
  refine t1 10 ?_
  refine ca hA ?_ (hp:=has1 (by rw [hk];exact hH _ _ (by omega) hasA) (has1 (hH _ _ (by omega) hasA) has0))
  rintro av _ ⟨hav,rfl⟩
  refine nl ?_
  refine te (fun w hw=>has_sl (xs:=hs) hw hasA) ?_
  refine t1 11 ?_
  refine sli (vs:=[av]) (fun q2=>?_) (h1:=one_cons hav one_nil)
  refine nl ?_
  refine te (fun w hw=>has_sl (xs:=hs) hw hasA) ?_
  refine t1 12 ?_
  refine ap (xs:=hs2) (news:=[av]) (fun o2=>?_) (h1:=one_cons hav one_nil)
  refine TO.one (v:=o2) (xs:=hs2 ++ [av]) fun ho2=>?_
  refine nl ?_
  refine te (fun w hw=>has_sl (xs:=hs) hw hasA) ?_
  refine tka 13 ?_
  refine t0 ?_
  refine TX.im (owl_push (l:=Zs (dg (chs (n + 1) i))) (by rw [h2,hll2]) fitA) ?_
  repeat' first|(refine wo ?_;first|(refine ao ?_;first|refine aw ?_)|refine oa ?_)|refine rg ?_|refine xc ?_|refine nl ?_|refine xb ?_
  exact lp ⟨i + 1,o2,hs2 ++ [av]⟩ ⟨⟨by dsimp only;omega,hlt⟩,by simp [h2],ho2⟩ (hf:=by dsimp only;rw [hpt];exact fitA)
 ·obtain rfl:i = n + 1:=by omega
  have hpt:=pasc_take (n + 1) (n + 1) (Nat.le_refl _)
  have hpa:(pasc (n + 1)).take (n + 1 + 1) = pasc (n + 1):=List.take_of_length_le (by rw [pasc_len];omega)
  have hO2:=ROf_tr 1 (by decide)
  have e2:dg 1 = dg (chs (n + 1) (n + 1)):=by rw [chs_self]
  rw [e2,Us_eq] at hO2
  have hll2:((pasc (n + 1)).take (n + 1)).length = n + 1:=by rw [List.length_take,pasc_len];omega
  repeat' first|(refine gca ?_;first|(refine ca hO2 ?_;rintro o3 _ ⟨ho3,rfl⟩))|(refine sli (vs:=[o3]) (fun q3=>?_) (h1:=one_cons ho3 one_nil))|(refine ap (xs:=hs2) (news:=[o3]) (fun o4=>?_) (h1:=one_cons ho3 one_nil);refine TO.one (v:=o4) (xs:=hs2 ++ [o3]) fun ho4=>?_)|(refine wo ?_;first|(refine ao ?_;first|refine oa ?_)|refine oa ?_|refine ln ?_)|(refine gc ?_;first|(refine ci (fun hB=>?_) (fun hB=>?_) <;> try (exfalso;omega)))|refine sq ?_|refine rg ?_|refine xc ?_|refine nl ?_|refine xe ?_|refine rt ?_
  refine TX.im (owl_push (l:=Zs (dg (chs (n + 1) (n + 1)))) (by rw [h2,hll2]) fitA) ?_
  rw [← hpt,hpa]
  exact r1 ⟨hs2 ++ [o3],ho4,by simp [h2],rfl⟩
theorem Rrow_tr (n:Nat) (hn:n ≤ 65536):Tr Tryz.prog 114 [I n] [] [] fun u D=>∃ hs,u.oneCell' = true∧hs.length = n + 1∧D = [own TN u hs,owl T64 wU hs (pasc n)]:=by
 have hO:=ROf_tr 1 (by decide)
 have e1:dg 1 = dg (chs 0 0):=rfl
 rw [e1,Us_eq] at hO
 refine Tr.enter env _ Tryz.func114 (by kernel_rfl) rfl Tryz.ntmps114 rfl (by repeat (first | exact has00 | refine has01 ?_)) fun w0=>?_
 repeat' first|(refine gca ?_;first|(refine ca hO ?_;rintro o1 _ ⟨ho1,rfl⟩))|(refine sli (vs:=[o1]) (fun q1=>?_) (h1:=one_cons ho1 one_nil);refine TO.one (v:=q1) (xs:=[o1]) fun hq1=>?_)|(refine wo ?_;first|refine oa ?_)|refine sq ?_|refine rg ?_|refine xc ?_|refine nl ?_|refine bk ?_
 refine TC.im (owl_nil (e:=T64) (g:=wU) _) ?_
 refine TC.im (owl_push (hs:=[]) (ls:=[]) (v:=o1) (l:=Zs (dg (chs 0 0))) rfl fitA) ?_
 refine TC.loop (ι:=NxG) (fun g=>[(4,I g.i),(3,g.o)]) (fun g=>[own TN g.o g.hs,owl T64 wU g.hs (pasc g.i)]) (fun g=>g.i ≤ n∧g.hs.length = g.i + 1∧g.o.oneCell' = true) (fun g=>n - g.i) ⟨0,q1,[o1]⟩ [0] ⟨Nat.zero_le _,rfl,hq1⟩ ?_ (hf:=by dsimp only;rw [show pasc 0 = [] ++ [Zs (dg (chs 0 0))] from rfl];exact fitA)
 rintro ⟨i,o,hs2⟩ ⟨hi,h2,ho⟩
 dsimp only at hi h2 ho ⊢
 by_cases hlt:i < n
 ·repeat' first|(refine gca ?_;first|(refine ca (Rnext_tr o hs2 i (by omega)) ?_ (hp:=has1 hasA (has1 (has_owl (by rw [h2,pasc_len]) memA) has0));rintro o2 _ ⟨hs3,ho2,hl3,rfl⟩))|(refine wo ?_;first|(refine ao ?_;first|refine aw ?_|refine oa ?_)|refine oa ?_)|(refine gc ?_;first|(refine ci (fun hB=>?_) (fun hB=>?_) <;> try (exfalso;omega)))|refine sq ?_|refine rg ?_|refine xc ?_|refine nl ?_|refine sk ?_|refine bk ?_|refine xb ?_
  exact lp ⟨i + 1,o2,hs3⟩ ⟨hlt,hl3,ho2⟩
 ·obtain rfl:i = n:=by omega
  repeat' first|(refine wo ?_;first|(refine ao ?_;first|refine oa ?_)|refine oa ?_)|(refine gc ?_;first|(refine ci (fun hB=>?_) (fun hB=>?_) <;> try (exfalso;omega)))|refine sq ?_|refine rg ?_|refine xc ?_|refine nl ?_|refine xe ?_|refine rt ?_
  exact r1 ⟨hs2,ho,h2,rfl⟩
theorem RChoose_tr (n k:Nat) (hn:n ≤ 65536) (hk:k ≤ n):Tr Tryz.prog 69 [I n,I k] [] [] fun u D=>eNat u D (chs n k) 0:=by
 have hpl:=pasc_len n
 refine Tr.enter env _ Tryz.func69 (by kernel_rfl) rfl Tryz.ntmps69 rfl (by repeat (first | exact has00 | refine has01 ?_)) fun w0=>?_
 repeat' first|(refine gca ?_;first|(refine ca (Rrow_tr n hn) ?_;rintro o _ ⟨hs,ho,hl,rfl⟩;have hg:hs[k]? = some (hs.getD k nS):=(by rw [List.getD_eq_getElem?_getD,List.getElem?_eq_getElem (by omega)];rfl)))|refine le (xs:=hs) ?_ (hj:=hg)|(refine wo ?_;first|(refine ao ?_;first|refine oa ?_)|refine oa ?_|refine ixn ?_|refine gy ?_)|(refine gc ?_;first|(refine ci (fun hB=>?_) (fun hB=>?_) <;> try (exfalso;omega)))|refine sq ?_|refine rg ?_|refine xc ?_|refine nl ?_|refine sk ?_|refine bk ?_|refine rt ?_|refine xb ?_
 refine TX.im (owl_takeF (e:=T64) (g:=wU) (hs:=hs) (ls:=pasc n) (by rw [hl,hpl]) (i:=k) (by omega) fitA) ?_
 rw [pasc_get n k hk,← Us_eq]
 refine TX.one (v:=hs.getD k nS) (xs:=Us (dg (chs n k))) fun ho2=>?_
 exact r2 ⟨hs.getD k nS,rfl,ho2,rfl⟩
end Go.Art
namespace Go.Art
open Go Go.Proofs Go.RowKit
theorem chs_bnd:∀ n d,chs n d ≤ 2 ^ n
 | 0,0=>by simp [chs]
 | 0,d + 1=>by simp [chs]
 | n + 1,0=>by rw [show chs (n + 1) 0 = 1 from rfl];exact Nat.one_le_two_pow
 | n + 1,d + 1=>by
  rw [show chs (n + 1) (d + 1) = chs n d + chs n (d + 1) from rfl,Nat.pow_succ]
  have:=chs_bnd n d;have:=chs_bnd n (d + 1);omega
theorem risR_bnd {d f k:Nat} (hk:k ≤ 40):(risR d f k).length ≤ 1099511627776:=by
 rw [risR_len]
 refine Nat.le_trans (chs_bnd _ _) ?_
 exact Nat.le_trans (Nat.pow_le_pow_right (by decide) (show k - f ≤ 40 by omega)) (by decide)
def risJ (d f k j:Nat):List (List Int):=(risR d (f + j + 1) k).map fun l=>((f + j:Nat):Int) :: l
theorem risR_succ (d f k:Nat):risR (d + 1) f k = (List.range (k - f)).flatMap (risJ d f k):=rfl
structure RsG where
 i:Nat
 v:Value
 hs:List Value
attribute [local irreducible] Fit pt own ro vw mpc lpt vels rels mow lrc dfr
attribute [local irreducible] lmp lme mit velg relg bnd owl risJ
theorem rising23_tr:∀ (d f k:Nat),k ≤ 40→d ≤ 40→Tr Tryz.prog 36 [I f,I k,I d] [] [] fun u D=>∃ hs,u.oneCell' = true∧hs.length = (risR d f k).length∧D = [own TLs u hs,owl TLI I hs (risR d f k)]
 | 0,f,k,hk,hd=>by
  refine Tr.enter env _ Tryz.func36 (by kernel_rfl) rfl Tryz.ntmps36 rfl (by repeat (first | exact has00 | refine has01 ?_)) fun w0=>?_
  repeat' first|refine sli (vs:=[nS]) (fun q2=>?_) (h1:=one_cons rfl one_nil)|(refine wo ?_;first|(refine ao ?_;first|refine oa ?_)|refine oa ?_)|(refine gc ?_;first|refine ct ?_)|refine sq ?_|refine rg ?_|refine xc ?_|refine nl ?_|refine rt ?_
  refine TX.one (v:=q2) (xs:=[nS]) fun ho=>?_
  refine TX.im (owl_nil (e:=TLI) (g:=I) _) ?_
  refine TX.im (own_nil TLI _) ?_
  refine TX.im (owl_push (hs:=[]) (ls:=[]) (v:=nS) (l:=[]) rfl fitA) ?_
  exact r1 ⟨[nS],ho,rfl,rfl⟩
 | d + 1,f,k,hk,hd=>by
  have ih:=fun f=>rising23_tr d f k hk (by omega)
  have hbnd:=@risR_bnd
  have hdx:((d + 1:Nat):Int) - 1 = (d:Int):=by omega
  refine Tr.enter env _ Tryz.func36 (by kernel_rfl) rfl Tryz.ntmps36 rfl (by repeat (first | exact has00 | refine has01 ?_)) fun w0=>?_
  repeat' first|(refine wo ?_;first|(refine ao ?_;first|refine oa ?_)|refine oa ?_)|(refine gc ?_;first|refine cf ?_)|refine sq ?_|refine rg ?_|refine xc ?_|refine nl ?_|refine sk ?_|refine bk ?_
  refine TC.im (owl_nil (e:=TLI) (g:=I) _) ?_
  refine TC.im (own_nil TLs _) ?_
  refine TC.loop (ι:=RsG) (fun g=>[(8,I ((f + g.i:Nat):Int)),(7,g.v)]) (fun g=>[own TLs g.v g.hs,owl TLI I g.hs ((List.range g.i).flatMap (risJ d f k))]) (fun g=>g.i ≤ k - f∧g.v.oneCell' = true∧g.hs.length = ((List.range g.i).flatMap (risJ d f k)).length) (fun g=>k - f - g.i) ⟨0,nS,[]⟩ [0,1,2] ⟨Nat.zero_le _,rfl,rfl⟩ ?_
  rintro ⟨i,v,hs⟩ ⟨hi,hv,hl⟩
  dsimp only at hi hv hl ⊢
  by_cases hlt:i < k - f
  ·have h1:=ih (f + i + 1)
   have hj:risJ d f k i = (risR d (f + i + 1) k).map fun l=>((f + i:Nat):Int) :: l:=by unfold risJ;rfl
   have hfs:=fm_succ (risJ d f k) i
   have hlL:=@risR_bnd d (f + i + 1) k hk
   have hel:=fun l (h:l ∈ risR d (f + i + 1) k)=>(risR_mem d (f + i + 1) k l h).1
   have hbig:((List.range i).flatMap (risJ d f k)).length + (risR d (f + i + 1) k).length ≤ 1099511627776:=by
    obtain ⟨r,hr⟩:=fm_pre (risJ d f k) (show i + 1 ≤ k - f from hlt)
    have h2:=@risR_bnd (d + 1) f k hk
    rw [risR_succ,hr,hfs,hj] at h2
    simp only [List.length_append,List.length_map] at h2
    omega
   rw [hj] at hfs
   clear hj ih hbnd
   generalize risR d (f + i + 1) k = L at *
   generalize (List.range i).flatMap (risJ d f k) = M at *
   repeat' first|(refine gca ?_;first|(refine ca h1 ?_;rintro lv _ ⟨ks,hlv,hkl,rfl⟩))|refine aw (m:=((f + i + 1:Nat):Int)) ?_|refine aw (m:=(d:Int)) ?_ (h:=by rw [← hdx];rfl)|(refine wo ?_;first|(refine ao ?_;first|refine oa ?_)|refine oa ?_)|(refine gc ?_;first|(refine ci (fun hB=>?_) (fun hB=>?_) <;> try (exfalso;omega)))|refine sq ?_|refine rg ?_|refine xc ?_|refine nl ?_|refine sk ?_|refine bk ?_
   refine TC.loop (ι:=RsG) (fun g=>[(10,I g.i),(7,g.v)]) (fun g=>[own TLs g.v g.hs,owl TLI I g.hs (M ++ (L.take g.i).map fun l=>((f + i:Nat):Int) :: l)]) (fun g=>g.i ≤ L.length∧g.v.oneCell' = true∧g.hs.length = (M ++ (L.take g.i).map fun l=>((f + i:Nat):Int) :: l).length) (fun g=>L.length - g.i) ⟨0,v,hs⟩ [0,1,2,8,9] ⟨Nat.zero_le _,hv,by simpa using hl⟩ ?_ (hf:=by dsimp only;rw [List.take_zero,List.map_nil,List.append_nil];exact fitA)
   clear hl hv
   rintro ⟨j,v,hs⟩ ⟨hj,hv,hl⟩
   dsimp only at hj hv hl ⊢
   by_cases hjl:j < L.length
   ·have hmem:L.getD j [] ∈ L:=by rw [List.getD_eq_getElem?_getD,List.getElem?_eq_getElem hjl];exact List.getElem_mem hjl
    have hll:=hel _ hmem
    have hg1:ks[j]? = some (ks.getD j nS):=by rw [List.getD_eq_getElem?_getD,List.getElem?_eq_getElem (by omega)];rfl
    have hH:∀ F,owl TLI I ks L ∈ F→Has F (vw (ks.getD j nS) (Is (L.getD j []))):=fun F h=>has_elg (g:=I) (hs:=ks) (ls:=L) (has_owl (e:=TLI) hkl h) hjl
    have hst:M ++ (L.take (j + 1)).map (fun l=>((f + i:Nat):Int) :: l) = (M ++ (L.take j).map fun l=>((f + i:Nat):Int) :: l) ++ [((f + i:Nat):Int) :: L.getD j []]:=by
     rw [take_succ' hjl [],List.map_append,List.append_assoc];rfl
    have hml:(M ++ (L.take j).map fun l=>((f + i:Nat):Int) :: l).length ≤ 1099511627776:=by simp only [List.length_append,List.length_map,List.length_take];omega
    clear hel hmem h1
    generalize hrow:L.getD j [] = row at *
    generalize M ++ (L.take j).map (fun l=>((f + i:Nat):Int) :: l) = M1 at *
    repeat' first|refine slii [((f + i:Nat):Int)] fun v1=>?_|refine le (xs:=ks) ?_ (hj:=hg1)|(refine api (l:=[((f + i:Nat):Int)]) (news:=row) (fun o1=>?_) (hu:=hH _ memA) (hl:=by simp only [List.length_cons,List.length_nil];omega);refine TO.one (v:=o1) (xs:=Is (((f + i:Nat):Int) :: row)) fun ho1=>?_)|refine sli (vs:=[o1]) (fun q2=>?_) (h1:=one_cons ho1 one_nil)|(refine ap (xs:=hs) (news:=[o1]) (fun o2=>?_) (h1:=one_cons ho1 one_nil);refine TO.one (v:=o2) (xs:=hs ++ [o1]) fun ho2=>?_)|(refine wo ?_;first|(refine ao ?_;first|refine aw ?_|refine oa ?_)|refine oa ?_|refine ln ?_|refine ixn ?_)|(refine gc ?_;first|(refine ci (fun hB=>?_) (fun hB=>?_) <;> try (exfalso;omega)))|refine sq ?_|refine rg ?_|refine xc ?_|refine nl ?_|refine sk ?_|refine bk ?_|refine xb ?_
    refine TX.im (owl_push (hs:=hs) (ls:=M1) (v:=o1) (l:=((f + i:Nat):Int) :: row) hl fitA) ?_
    exact lp ⟨j + 1,o2,hs ++ [o1]⟩ ⟨hjl,ho2,by dsimp only;rw [hst];simp [hl]⟩ (hf:=by dsimp only;rw [hst];exact fitA)
   ·obtain rfl:j = L.length:=by omega
    rw [List.take_length] at hl ⊢
    rw [← hfs] at hl ⊢
    repeat' first|(refine wo ?_;first|(refine ao ?_;first|refine aw ?_|refine oa ?_)|refine oa ?_|refine ln ?_)|(refine gc ?_;first|(refine ci (fun hB=>?_) (fun hB=>?_) <;> try (exfalso;omega)))|refine sq ?_|refine rg ?_|refine xc ?_|refine nl ?_|refine xe ?_|refine xb ?_
    exact lp ⟨i + 1,v,hs⟩ ⟨hlt,hv,hl⟩
  ·obtain rfl:i = k - f:=by omega
   rw [← risR_succ] at hl ⊢
   repeat' first|(refine wo ?_;first|(refine ao ?_;first|refine oa ?_)|refine oa ?_)|(refine gc ?_;first|(refine ci (fun hB=>?_) (fun hB=>?_) <;> try (exfalso;omega)))|refine sq ?_|refine rg ?_|refine xc ?_|refine nl ?_|refine xe ?_|refine rt ?_
   exact r1 ⟨hs,hv,hl,rfl⟩
end Go.Art
