/- Texts put together: StopH StopI StopJ StopK StopN Ve Vf Mb Md Za Zb Zc Zd Ze Zf Zh Va Gc Rq Vb Vc Vg Vm As Vh. Conditions: none. -/
import Derived.Test.YtpabbhpgikdhfaaGreatWNe
set_option linter.unusedSimpArgs false
set_option linter.unusedVariables false
set_option maxRecDepth 4000
namespace Go.Art
open Go Go.Proofs Go.RowKit
attribute [local irreducible] Fit pt own ro vw mpc lpt vels rels mow lrc dfr
structure UG where
 G:Int→Option Value
 many:List Int
 q:List Int
 qv:Value
structure UF where
 i:Nat
 G:Int→Option Value
 g:Int→List Int
 many:List Int
abbrev TQ':TypeId:=207
abbrev TM':TypeId:=160
set_option maxHeartbeats 2000000 in
theorem unknown_tr (k:Int) (s:Value) (hs:List Value) (ls:List (List Int)) (hE:stopE k ls = 0) (hn:ls.length ≤ 4096) :
  Tr Tryz.prog 136 [I k,s] [vw s hs,vels hs ls] [] fun v D=>∃ b G g,v = mp b∧D = [mow 3 b G g none]∧(∀ x,left G x = true ↔ (0 ≤ x∧x < k)∧¬ Kn ls x):=by
 obtain ⟨hk1,hk2,hsets⟩:=stopE_zero hE
 refine Tr.enter env _ Tryz.func136 (by kernel_rfl) rfl Tryz.ntmps136 rfl (by repeat (first | exact has00 | refine has01 ?_)) fun w0=>?_
 refine TC.els (hs:=hs) (ls:=ls) (fun hl=>?_)
 refine TC.one (v:=s) (xs:=hs) fun hsv=>?_
 repeat' first|refine bx1 fun bs=>?_|refine mmo 3 (fun _=>[]) fun b=>?_|refine al fun bl=>?_|(refine wo ?_;first|refine oa ?_|refine sr ?_)|refine sq ?_|refine rg ?_|refine xc ?_|refine nl ?_|refine bk ?_
 refine TC.loop (ι:=Nat × (Int→Option Value)) (fun i=>[(23,I i.1)]) (fun i=>[mow 3 b i.2 (fun _=>[]) none]) (fun i=>(i.1:Int) ≤ k∧∀ x,i.2 x = if 0 ≤ x∧x < i.1 then some nS else none) (fun i=>(k - i.1).toNat) (0,fun _=>none) [3,4,5,22] ⟨by simp;omega,fun x=>by rw [if_neg (by omega)]⟩ ?_
 ·rintro ⟨i,G⟩ ⟨h1,h2⟩
  dsimp only at h1 h2 ⊢
  by_cases hi:(i:Int) < k
  ·repeat' first|(refine wo ?_;first|(refine ao ?_;first|refine oa ?_)|refine oa ?_|refine ld ?_)|(refine gc ?_;first|(refine ci (fun hB=>?_) (fun hB=>?_) <;> try (exfalso;omega)))|refine sq ?_|refine rg ?_|refine xc ?_|refine nl ?_|refine sk ?_|refine bk ?_
   refine TO.im (own_nil 3 _) ?_
   refine mou (v:=nS) (l:=[]) (G:=G) (k:=(i:Int)) ?_ (.inr ⟨rfl,by rw [h2,if_neg (by omega)]⟩)
   rw [show setK (fun _:Int=>([]:List Int)) (i:Int) [] = fun _=>[] from by funext x;unfold setK;split <;> rfl]
   repeat' first|(refine wo ?_;first|(refine ao ?_;first|refine aw ?_)|refine oa ?_)|refine rg ?_|refine xc ?_|refine nl ?_|refine xb ?_
   refine lp (i + 1,setK G i (some nS)) ⟨by dsimp only;omega,fun x=>?_⟩
   dsimp only
   by_cases e:x = i
   ·rw [e,setK_eq,if_pos (by omega)]
   ·rw [setK_ne _ _ e,h2]
    by_cases e2:0 ≤ x∧x < (i:Int)
    ·rw [if_pos e2,if_pos (by omega)]
    ·rw [if_neg e2,if_neg (by omega)]
  ·have hik:(i:Int) = k:=by omega
   rw [hik] at h2
   have hl0:∀ x,left G x = true ↔ 0 ≤ x∧x < k:=fun x=>by
    unfold left;rw [h2]
    by_cases e:0 ≤ x∧x < k
    ·rw [if_pos e];simp [e]
    ·rw [if_neg e];simp [e]
   clear h2
   repeat' first|refine mki fun mv0=>?_|(refine wo ?_;first|(refine ao ?_;first|refine oa ?_)|refine ld ?_|refine ln ?_)|(refine gc ?_;first|(refine ci (fun hB=>?_) (fun hB=>?_) <;> try (exfalso;omega)))|refine sq ?_|refine rg ?_|refine xc ?_|refine nl ?_|refine xe ?_
   refine al fun bm=>?_
   refine TO.one (v:=mv0) (xs:=Is (List.replicate ((hs.length:Nat):Int).toNat 0)) fun hmv=>?_
   repeat' first|(refine wo ?_;first|refine sr ?_)|refine sq ?_|refine rg ?_|refine xc ?_|refine nl ?_
   refine al fun bq=>?_
   repeat' first|(refine wo ?_;first|refine oa ?_|refine ld ?_|refine ln ?_)|refine sq ?_|refine rg ?_|refine xc ?_|refine nl ?_|refine bk ?_
   refine TC.loop (ι:=UF) (fun u=>[(36,I u.i)]) (fun u=>[mow 3 b u.G u.g none,own 3 mv0 (Is u.many)])
    (fun u=>u.i ≤ ls.length∧(∀ x,left u.G x = true ↔ 0 ≤ x∧x < k)∧(∀ x,left u.G x = true→u.g x = idx ls x u.i)∧u.many.length = ls.length∧∀ j,j < u.i→u.many.getD j 0 = (ls.getD j []).length)
    (fun u=>ls.length - u.i) ⟨0,G,fun _=>[],List.replicate ((hs.length:Nat):Int).toNat 0⟩ [0,3,5,7,8,9,34,35] ⟨by simp,hl0,fun x _=>rfl,by simp [hl],fun j h=>by simp at h⟩ ?_
   ·clear hl0 h1 hi hik
    rintro ⟨i,G,g,many⟩ ⟨h1,h2,h3,h4,h5⟩
    dsimp only at h1 h2 h3 h4 h5 ⊢
    by_cases hi:i < ls.length
    ·have hset:=hsets _ (getD_mem hi)
     have hnd:=isSet_nodup hset
     have hin:=(isSet_iff.1 hset).2.2
     have hlk:=isSet_len hset
     repeat' first|(refine wo ?_;first|(refine ao ?_;first|refine oa ?_)|refine oa ?_|refine ld ?_|refine lnm ?_|refine ixmn ?_|refine lv ?_|refine ixn ?_|refine soi ?_)|(refine gc ?_;first|(refine ci (fun hB=>?_) (fun hB=>?_) <;> try (exfalso;omega)))|refine sq ?_|refine rg ?_|refine xc ?_|refine nl ?_|refine sk ?_|refine bk ?_
     generalize hL:ls.getD i [] = L at *
     refine TC.loop (ι:=Nat × (Int→Option Value) × (Int→List Int)) (fun u=>[(48,I u.1)]) (fun u=>[mow 3 b u.2.1 u.2.2 none])
      (fun u=>u.1 ≤ L.length∧(∀ x,left u.2.1 x = true ↔ 0 ≤ x∧x < k)∧∀ x,left u.2.1 x = true→u.2.2 x = idx ls x i ++ if x ∈ L.take u.1 then [(i:Int)] else [])
      (fun u=>L.length - u.1) (0,G,g) [0,3,5,7,8,9,10,34,35,36,46,47] ⟨by simp,h2,fun x hx=>(h3 x hx).trans (by simp)⟩ ?_
     ·clear h2 h3
      rintro ⟨m,G,g⟩ ⟨h6,h2,h3⟩
      dsimp only at h6 h2 h3 ⊢
      subst hL
      by_cases hm:m < (ls.getD i []).length
      ·have hx0:=hin _ (mem_getD.2 ⟨m,hm,rfl⟩)
       have hmt:=not_mem_take (isSet_sorted hset).2 hm
       have hts:=take_succ' hm 0
       generalize hx:(ls.getD i []).getD m 0 = x at *
       have hgx:=h3 x ((h2 x).2 hx0)
       rw [if_neg hmt,List.append_nil] at hgx
       obtain ⟨v,hv⟩ : ∃ v,G x = some v:=Option.isSome_iff_exists.1 ((h2 x).2 hx0)
       repeat' first|refine lie hx ?_|(refine wo ?_;first|(refine ao ?_;first|refine oa ?_)|refine oa ?_|refine ixmn ?_)|(refine gc ?_;first|(refine ci (fun hB=>?_) (fun hB=>?_) <;> try (exfalso;omega)))|refine sq ?_|refine rg ?_|refine xc ?_|refine nl ?_|refine sk ?_|refine bk ?_
       refine TC.im (Im.trans (Tk.here) (mow_out _ b G g hv _)) ?_
       have hgl:=idx_len ls x i
       refine rs (fun w=>w.heap[bl]? = some (.cells #[mp b] TM' (0,0))) ?_ (fun w hw=>pt_at (by simp) hw)
       refine tkl 0 (cs:=[mp b]) (fun w h=>h) ?_
       refine tka 1 ?_
       refine tkl 2 (cs:=[mp b]) (fun w h=>h) ?_
       refine tka 3 ?_
       refine tka 6 ?_
       refine t2 4 7 ?_ ?_
       refine mo ?_ (ones_some hv)
       repeat' first|refine nl ?_
       refine te (fun w hw=>pt_at (by simp) hw) ?_
       refine tk 5 (fun w h=>R_field (E:=env) (cs:=[v]) rfl rfl rfl rfl rfl rfl) ?_
       refine t1 7 ?_
       refine slii [(i:Int)] fun v1=>?_
       repeat' first|refine nl ?_
       refine te (fun w hw=>pt_at (by simp) hw) ?_
       refine t1 8 ?_
       rotate_left
       refine slii [(i:Int)] fun v1=>?_
       repeat' first|refine nl ?_
       refine te (fun w hw=>pt_at (by simp) hw) ?_
       refine t1 4 ?_
       refine mo ?_ (ones_some hv)
       repeat' first|refine nl ?_
       refine te (fun w hw=>pt_at (by simp) hw) ?_
       refine tk 5 (fun w h=>R_field (E:=env) (cs:=[v]) rfl rfl rfl rfl rfl rfl) ?_
       refine t1 8 ?_
       all_goals
        refine api (v:=v) (l:=g x) (news:=[(i:Int)]) (hl:=by rw [hgx];simp only [List.length_cons,List.length_nil];omega) fun v2=>?_
        refine TO.one (v:=v2) (xs:=Is (g x ++ [(i:Int)])) fun hv2=>?_
        repeat' first|refine nl ?_
        refine te (fun w hw=>pt_at (by simp) hw) ?_
        refine tk 9 (fun w h=>R_buildC (E:=env) (vs:=[(0,v2)]) (cs:=[v2]) (by simp [hv2]) rfl rfl rfl rfl rfl) ?_
        refine t1 10 ?_
        refine mou (v:=v2) (l:=g x ++ [(i:Int)]) (G:=G) (k:=x) ?_ (.inl rfl)
        repeat' first|refine nl ?_
        refine te (fun w hw=>pt_at (by simp) hw) ?_
        refine t0 ?_
        repeat' first|(refine wo ?_;first|(refine ao ?_;first|refine aw ?_)|refine oa ?_)|refine rg ?_|refine xc ?_|refine nl ?_|refine xb ?_
        refine lp (m + 1,setK G x (some v2),setK g x (g x ++ [(i:Int)])) ⟨by dsimp only;omega,fun y=>?_,fun y hy=>?_⟩
        ·dsimp only;rw [left_set G x v2 ((h2 x).2 hx0)];exact h2 y
        ·dsimp only at hy ⊢
         rw [left_set G x v2 ((h2 x).2 hx0)] at hy
         rw [hts]
         by_cases e:y = x
         ·rw [e,setK_eq,hgx,if_pos (by simp)]
         ·rw [setK_ne _ _ e,h3 y hy]
          have:(y ∈ (ls.getD i []).take m ++ [x]) ↔ y ∈ (ls.getD i []).take m:=by simp [e]
          simp only [this]
      ·obtain rfl:m = (ls.getD i []).length:=by omega
       rw [List.take_length] at h3
       repeat' first|(refine wo ?_;first|(refine ao ?_;first|refine aw ?_|refine oa ?_)|refine oa ?_)|(refine gc ?_;first|(refine ci (fun hB=>?_) (fun hB=>?_) <;> try (exfalso;omega)))|refine sq ?_|refine rg ?_|refine xc ?_|refine nl ?_|refine xe ?_|refine xb ?_
       refine lp ⟨i + 1,G,g,many.set i (ls.getD i []).length⟩ ⟨by dsimp only;omega,h2,fun y hy=>?_,by simp [h4],fun j hj=>?_⟩
       ·dsimp only;rw [h3 y hy,idx_succ]
       ·dsimp only at hj ⊢
        rw [getD_set _ _ _ _ (by omega)]
        by_cases e:i = j
        ·rw [if_pos e,e]
        ·rw [if_neg e];exact h5 j (by omega)
    ·obtain rfl:i = ls.length:=by omega
     have hcl:∀ j,j < ls.length→cnt (left G) (ls.getD j []) = (ls.getD j []).length:=fun j hj=>by
      unfold cnt
      rw [List.filter_eq_self.2 fun y hy=>(h2 y).2 ((isSet_iff.1 (hsets _ (getD_mem hj))).2.2 y hy)]
     have hU:UInv k ls G g many []:=by
      refine ⟨fun x hx=>(h2 x).1 hx,h3,fun x h0 hk hx=>?_,h4,by simp,?_⟩
      ·rw [(h2 x).2 ⟨h0,hk⟩] at hx;cases hx
      ·have:cnt (left G) (belowI k) ≤ k.toNat:=by unfold cnt;rw [← belowI_len k];exact List.length_filter_le _ _
       have:=Nat.mul_le_mul_right (ls.length + 1) this
       rw [Nat.add_mul];simp only [List.length_nil];omega
     have hsz:(k.toNat + 1) * (ls.length + 1) ≤ 65537 * 4097:=Nat.mul_le_mul (by omega) (by omega)
     have hcm:∀ j,j < ls.length→many.getD j 0 = cnt (left G) (ls.getD j []):=fun j hj=>by rw [h5 j hj,hcl j hj]
     have hc0:cnt (left G) (belowI k) * (ls.length + 1) ≤ k.toNat * (ls.length + 1):=Nat.mul_le_mul_right _ (by unfold cnt;rw [← belowI_len k];exact List.length_filter_le _ _)
     rw [Nat.add_mul,Nat.one_mul] at hsz
     clear hcl h5
     refine TC.im (own_nil 3 _) ?_
     repeat' first|(refine wo ?_;first|(refine ao ?_;first|refine oa ?_)|refine oa ?_|refine ld ?_|refine ln ?_)|(refine gc ?_;first|(refine ci (fun hB=>?_) (fun hB=>?_) <;> try (exfalso;omega)))|refine sq ?_|refine rg ?_|refine xc ?_|refine nl ?_|refine bk ?_|refine xe ?_
     refine TC.loop (ι:=Nat × List Int × Value) (fun u=>[(66,I u.1)]) (fun u=>[pt bq [u.2.2] TQ',own 3 u.2.2 (Is u.2.1)])
      (fun u=>u.1 ≤ ls.length∧UInv k ls G g many u.2.1∧(∀ j,j < u.1→Fine1 ls G many u.2.1 j)∧u.2.1.length + cnt (left G) (belowI k) * (ls.length + 1) + (ls.length - u.1) + 1 ≤ (k.toNat + 1) * (ls.length + 1))
      (fun u=>ls.length - u.1) (0,[],nS) [3,5,7,8,9,65] ⟨by simp,hU,fun j h=>by simp at h,by rw [Nat.add_mul];simp only [List.length_nil];omega⟩ ?_
     clear hU
     rintro ⟨i,q,qv⟩ ⟨h6,hU,hF,hB⟩
     dsimp only at h6 hU hF hB ⊢
     by_cases hi:i < ls.length
     ·have hlk:=isSet_len (hsets _ (getD_mem hi))
      obtain ⟨l1,l2,l3,l4⟩:=lone_inv (B:=ls.length - i) hU hsets hi (hcm i hi) (by omega)
      have hq2:q.length + (ls.getD i []).length ≤ 1099511627776:=by rw [Nat.add_mul,Nat.one_mul] at hB;omega
      repeat' first|(refine cav (vs:=[I i]) (cap:=#[ptr bm,ptr bs,ptr bl,ptr bq]) (lone_tr i bm bs bl bq b mv0 s qv many q hs ls G g hi h4 hq2) ?_;rintro _ _ ⟨rfl,qw,rfl⟩)|(refine wo ?_;first|(refine ao ?_;first|refine aw ?_|refine oa ?_)|refine oa ?_)|(refine gc ?_;first|(refine ci (fun hB=>?_) (fun hB=>?_) <;> try (exfalso;omega)))|refine sq ?_|refine rg ?_|refine xc ?_|refine nl ?_|refine sk ?_|refine bk ?_|refine xb ?_
      refine lp (i + 1,q ++ loneL many G ls i,qw) ⟨by dsimp only;omega,l1,fun j hj=>?_,by dsimp only;omega⟩
      by_cases e:j = i
      ·rw [e];exact l2
      ·have:=hF j (by dsimp only at hj;omega)
       exact ⟨this.1,fun hc y hy hl=>l3 y (this.2 hc y hy hl)⟩
     ·obtain rfl:i = ls.length:=by omega
      clear hB hcm h2 h3 hc0
      repeat' first|(refine wo ?_;first|(refine ao ?_;first|refine oa ?_))|(refine gc ?_;first|(refine ci (fun hB=>?_) (fun hB=>?_) <;> try (exfalso;omega)))|refine sq ?_|refine rg ?_|refine xc ?_|refine nl ?_|refine bk ?_|refine xe ?_
      refine TC.loop (ι:=UG) (fun _=>[]) (fun u=>[mow 3 b u.G g none,own 3 mv0 (Is u.many),pt bq [u.qv] TQ',own 3 u.qv (Is u.q)])
       (fun u=>UInv k ls u.G g u.many u.q∧∀ j,j < ls.length→Fine1 ls u.G u.many u.q j) (fun u=>cnt (left u.G) (belowI k) * (ls.length + 1) + u.q.length) ⟨G,many,q,qv⟩ [3,5,7,8,9] ⟨hU,hF⟩ ?_
      clear hU hF h4 h6 h1
      rintro ⟨G,many,q,qv⟩ ⟨hU,hF⟩
      dsimp only at hU hF ⊢
      cases q with
      | nil=>
       repeat' first|(refine wo ?_;first|(refine ao ?_;first|refine oa ?_)|refine oa ?_|refine ld ?_|refine lnm ?_)|(refine gc ?_;first|refine cf ?_)|refine sq ?_|refine rg ?_|refine xc ?_|refine nl ?_|refine xe ?_|refine rt ?_
       refine r1 ⟨b,G,g,rfl,rfl,fun x=>?_⟩
       constructor
       ·intro hx;have hd:=hU.dom x hx;exact ⟨hd,(hU.end hsets hF x hd.1 hd.2).1 hx⟩
       ·rintro ⟨hd,hx⟩;exact (hU.end hsets hF x hd.1 hd.2).2 hx
      | cons x r=>
       have hlen:0 < (x :: r).length:=by simp
       refine TC.fact (mow_one (T:=3) (b:=b) (G:=G) (f:=g) (o:=none) (by simp)) fun hGo=>?_
       repeat' first|(refine gca ?_;first|(refine ca (next_tr bq qv x r) ?_;rintro _ _ ⟨rfl,qw,rfl⟩))|(refine wo ?_;first|(refine ao ?_;first|refine oa ?_)|refine oa ?_|refine ld ?_|refine lnm ?_)|(refine gc ?_;first|(refine ci (fun hB=>?_) (fun hB=>?_) <;> try (exfalso;omega)))|refine sq ?_|refine rg ?_|refine xc ?_|refine nl ?_|refine sk ?_|refine bk ?_
       cases hG:G x with
       | none=>
        have hlx:left G x = false:=by unfold left;rw [hG];rfl
        have hG1:=ones_none hG
        repeat' first|refine moN ?_ hG1|refine al fun bw=>?_|refine sra ?_|(refine wo ?_;first|refine oa ?_)|(refine gc ?_;first|refine ct ?_)|refine sq ?_|refine rg ?_|refine xc ?_|refine nl ?_|refine xe ?_
        refine lp ⟨G,many,r,qw⟩ ⟨⟨hU.dom,hU.sets,hU.gone,hU.len,fun y hy=>hU.que y (by simp [hy]),?_⟩,fun j hj=>⟨(hF j hj).1,fun hc y hy hly=>?_⟩⟩ (hlt:=by dsimp only;simp only [List.length_cons];omega)
        ·have:=hU.size;dsimp only at this ⊢;simp only [List.length_cons] at this;omega
        ·have h1:=(hF j hj).2 hc y hy hly
         rcases List.mem_cons.1 h1 with rfl | h1
         ·rw [hlx] at hly;cases hly
         ·exact h1
       | some v=>
        have hlx:left G x = true:=by unfold left;rw [hG];rfl
        have hG1:=ones_some hG
        have hvo:=hGo _ _ nofun hG
        have hV:=VInv.start hU hsets hF hlx
        have hgx:=hU.sets x hlx
        repeat' first|refine moS ?_ hG1|refine al fun bw=>?_|refine sra ?_|(refine wo ?_;first|refine oa ?_|refine ld ?_)|(refine gc ?_;first|refine cf ?_)|refine sq ?_|refine rg ?_|refine xc ?_|refine nl ?_|refine sk ?_
        refine TO.im (Im.trans tkA (mow_out _ b G g hG _)) ?_
        refine mod ?_
        rw [hgx]
        repeat' first|(refine wo ?_;first|refine oa ?_|refine ld ?_|refine lnm ?_)|refine sq ?_|refine rg ?_|refine xc ?_|refine nl ?_|refine bk ?_
        refine TC.loop (ι:=Nat × List Int × List Int × Value) (fun u=>[(90,I u.1)]) (fun u=>[own 3 mv0 (Is u.2.1),pt bq [u.2.2.2] TQ',own 3 u.2.2.2 (Is u.2.2.1)])
         (fun u=>u.1 ≤ (idx ls x ls.length).length∧VInv k ls (setK G x none) g x (idx ls x ls.length) u.2.1 u.2.2.1 r u.1) (fun u=>(idx ls x ls.length).length - u.1) (0,many,r,qw) [3,5,7,8,9,88,89] ⟨Nat.zero_le _,hV⟩ ?_
        clear hV
        rintro ⟨j,many,q,qv⟩ ⟨h6,hV⟩
        dsimp only at h6 hV ⊢
        by_cases hj:j < (idx ls x ls.length).length
        ·obtain ⟨i,he,hil,hxi⟩:=mem_idx.1 (mem_getD.2 ⟨j,hj,rfl⟩)
         obtain ⟨-,hV'⟩:=hV.step hsets hj he
         have hlk:=isSet_len (hsets _ (getD_mem hil))
         have hml:=hV.inv.len
         have hwl:=idx_len ls x ls.length
         have hmb:=hV.many i hil
         have hcl:cnt (left (setK G x none)) (ls.getD i []) ≤ (ls.getD i []).length:=List.length_filter_le _ _
         have hmb2:0 ≤ many.getD i 0∧many.getD i 0 ≤ 70000:=by split at hmb <;> omega
         have hq2:q.length + (ls.getD i []).length ≤ 1099511627776:=by have:=hV.bud;rw [Nat.add_mul,Nat.one_mul] at this;omega
         clear hmb hcl
         repeat' first|refine lie he ?_|(refine cav (vs:=[I i]) (cap:=#[ptr bm,ptr bs,ptr bl,ptr bq]) (lone_tr i bm bs bl bq b mv0 s qv (many.set i (many.getD i 0 - 1)) q hs ls (setK G x none) g hil (by simpa using hml) hq2) ?_;rintro _ _ ⟨rfl,qw,rfl⟩)|(refine wo ?_;first|(refine ao ?_;first|refine aw ?_|refine oa ?_)|refine oa ?_|refine ld ?_|refine ixmn ?_|refine li ?_|refine soi ?_)|(refine gc ?_;first|(refine ci (fun hB=>?_) (fun hB=>?_) <;> try (exfalso;omega)))|refine sq ?_|refine rg ?_|refine xc ?_|refine nl ?_|refine sk ?_|refine bk ?_|refine xb ?_
         exact lp (j + 1,_,_,qw) ⟨by dsimp only;omega,hV'⟩
        ·obtain rfl:j = (idx ls x ls.length).length:=by omega
         obtain ⟨e1,e2⟩:=hV.end
         have e3:=hV.qlen
         have e4:=idx_len ls x ls.length
         have e5:=cnt_drop hlx (left_del G x) (fun y hy=>left_del_ne G hy) (l:=belowI k) ((belowI_sorted k).imp fun h e=>by omega)
         rw [if_pos (mem_belowI.2 (hU.dom x hlx))] at e5
         clear hV
         repeat' first|(refine wo ?_;first|(refine ao ?_;first|refine oa ?_))|(refine gc ?_;first|(refine ci (fun hB=>?_) (fun hB=>?_) <;> try (exfalso;omega)))|refine sq ?_|refine rg ?_|refine xc ?_|refine nl ?_|refine xe ?_|refine xb ?_
         refine lp ⟨setK G x none,many,q,qv⟩ ⟨e1,e2⟩ (hlt:=by dsimp only;rw [e5,Nat.add_mul,Nat.one_mul];simp only [List.length_cons];omega)
end Go.Art
set_option maxRecDepth 4000
namespace Go.Art
open Go Go.Proofs Go.RowKit
attribute [local irreducible] Fit pt own ro vw mpc lpt vels rels mow lrc dfr
noncomputable def knownR (k:Int) (ls:List (List Int)):List Int:=if stopE k ls = 0 then knownL k ls else []
end Go.Art
set_option maxRecDepth 4000
namespace Go.Art
open Go Go.Proofs Go.RowKit
attribute [local irreducible] Fit pt own ro vw mpc lpt vels rels mow lrc dfr
abbrev W64 (n:Int):Value:=.int .u64 n
def bitsL (k n:Int):List Int:=(belowI k).filter fun i=>decide (n / 2 ^ i.toNat % 2 = 1)
/-! ### Examples -/
def knb (ls:List (List Int)):Nat→Int→Bool
 | 0,_=>false
 | n + 1,s=>ls.any fun l=>l.contains s && l.all fun x=>x == s || knb ls n x
end Go.Art
set_option maxRecDepth 4000
namespace Go.Art
open Go Go.Proofs Go.RowKit
attribute [local irreducible] Fit pt own ro vw mpc lpt vels rels mow lrc dfr
abbrev Ws (l:List Int):List Value:=l.map W64
section
variable {P:Program} {E:Env P} {n:Sh} {X:Cx} {s:List K} {fr:Fr} {A A' B F:List Ch} {ops:Array Oper} {rest:List Oper} {d:Nat} {ty:TypeId} {pos:String} {after:Array Edge} {v:Value} {t t':TypeId} {x y:Operand} {c0:Code}
end
def setsL (k:Int) (zs:List Int):List (List Int):=(zs.map (bitsL k)).filter fun l=>decide (0 < l.length)
structure UnG where
 i:Nat
 o:Value
 hs:List Value
 ls:List (List Int)
end Go.Art
set_option maxRecDepth 4000
namespace Go.Art
open Go Go.Proofs Go.RowKit
attribute [local irreducible] Fit pt own ro vw mpc lpt vels rels mow lrc dfr
attribute [local irreducible] lmp lme mit
def KeysOf (f:Int→Option Value) (zs:List Int):Prop:=zs.Nodup∧∀ k,k ∈ zs ↔ (f k).isSome = true
theorem Keys1_seq (c b:Nat) (f:Int→Option Value) (N:Nat) (hN:∀ zs:List Int,zs.Nodup→(∀ k ∈ zs,(f k).isSome = true)→zs.length ≤ N) :
  SeqC Tryz.prog 193 #[ptr c] [lpt c [mp b] 160,lmp b f] N (KeysOf f):=by
 refine ⟨?_,fun zs h=>hN zs h.1 fun k hk=>(h.2 k).1 hk,by (repeat (first | exact has00 | refine has01 ?_));first | done | fail⟩
 intro α l J el a0 h0 hnb hy
 refine Tr.enter env _ Tryz.func193 (by kernel_rfl) rfl Tryz.ntmps193 rfl (by repeat (first | exact has00 | refine has01 ?_)) fun w0=>?_
 refine TC.entries (b:=b) (f:=f) (fun es clock hT=>?_)
 have hold:∀ x ∈ es.toList,x.born < clock:=hT.st.1
 have hnd:(es.toList.map (·.born)).Nodup:=hT.st.2.1
 repeat' first|refine rgm (b:=b) (es:=es) (clock:=clock) fun r=>?_|(refine wo ?_;first|refine ldl ?_)|refine sq ?_|refine rg ?_|refine xc ?_|refine nl ?_|refine bk ?_
 refine TC.loop (ι:=α × Array Nat) (fun _=>[]) (fun a=>mit r b clock a.2 clock :: lme b es clock :: lpt c [mp b] 160 :: J a.1) (fun a=>(el a.1).Nodup∧∀ k,k ∈ el a.1 ↔ ∃ e ∈ es.toList,e.key = I k∧a.2.contains e.born = true) (fun a=>(leftOf es a.2).size) (a0,#[]) [0,5] ⟨by rw [h0];exact .nil,by rw [h0];simp⟩ ?_ (hf:=Fit.all)
 rintro ⟨a,seen⟩ ⟨h1,h2⟩
 dsimp only at h1 h2 ⊢
 have hkey:∀ e ∈ es.toList,∃ k,e.key = I k:=fun e he=>by
  have:=hT.ks e he
  unfold MapKept.IsKey at this
  split at this
  all_goals (first | (rename_i e1 e2;cases e1;subst this;exact ⟨_,e2⟩) | exact this.elim | (rename_i e1 _;cases e1))
 have hF:∀ seen,Fit (mit r b clock seen clock :: (lme b es clock :: lpt c [mp b] 160 :: J a)) (J a) [mit r b clock seen clock,lme b es clock,lpt c [mp b] 160]:=fun seen=>Fit.app [mit r b clock seen clock,lme b es clock,lpt c [mp b] 160] (J a)
 have hN0:(lme b es clock :: lpt c [mp b] 160 :: J a) ++ [] = lme b es clock :: lpt c [mp b] 160 :: J a:=List.append_nil _
 repeat' first|refine nxt (b:=b) (es:=es) (clock:=clock) (fun hz=>?_) (fun e he=>?_) hold (Nat.le_refl _)|(refine wo ?_;first|refine oa ?_)|(refine gc ?_;first|refine ct ?_|refine cf ?_)|refine sq ?_|refine rg ?_|refine xc ?_|refine nl ?_|refine sk ?_|refine bk ?_|refine xe ?_
 ·refine TX.im (B:=mit r b clock seen clock :: (lme b es clock :: lpt c [mp b] 160 :: J a)) (by exact Im.perm (by simp)) ?_
  refine e0 (D:=J a) ⟨a,⟨h1,fun k=>?_⟩,rfl⟩ (hf:=hF seen) (nb:=hnb a)
  rw [h2,Option.isSome_iff_exists]
  constructor
  ·rintro ⟨e,he,hk,_⟩;exact ⟨e.val,(hT.to k e.val).2 ⟨e,he,hk,rfl⟩⟩
  ·rintro ⟨v,hv⟩;obtain ⟨e,he,hk,_⟩:=(hT.to k v).1 hv;exact ⟨e,he,hk,all_seen es seen hz e he⟩
 ·obtain ⟨he1,he2⟩:=mem_left he
  obtain ⟨k,hk⟩:=hkey e he1
  have hka:k ∉ el a:=fun hm=>by
   obtain ⟨e',h3,h4,h5⟩:=(h2 k).1 hm
   obtain ⟨i1,hi1⟩:=mem_get.1 h3
   obtain ⟨i2,hi2⟩:=mem_get.1 he1
   have:=keys_inj hT.st.2.2 hi1 hi2 (by rw [h4,hk])
   subst this;rw [hi1] at hi2;cases hi2;rw [h5] at he2;cases he2
  have hex:∀ e' ∈ es.toList,∀ k',e'.key = I k'→(f k').isSome = true:=fun e' he' k' hk'=>by rw [(hT.to k' e'.val).2 ⟨e',he',hk',rfl⟩];rfl
  have hNl:(el a).length < N:=by
   have:=hN (el a ++ [k]) (by rw [List.nodup_append];exact ⟨h1,by simp,fun x hx y hy e=>hka (by rw [List.mem_singleton.1 hy] at e;rw [← e];exact hx)⟩) (fun k' hk'=>by
    rcases List.mem_append.1 hk' with hk' | hk'
    ·obtain ⟨e',h3,h4,_⟩:=(h2 k').1 hk';exact hex e' h3 k' h4
    ·rw [List.mem_singleton.1 hk'];exact hex e he1 k hk)
   simp at this;omega
  repeat' first|refine ent (e:=e) (b:=b) (es:=es) (clock:=clock) ?_ he1 hnd|(refine wo ?_;first|refine oa ?_)|refine sq ?_|refine rg ?_|refine xc ?_|refine nl ?_
  refine TO.im (B:=mit r b clock (seen.push e.born) clock :: (lme b es clock :: lpt c [mp b] 160 :: J a)) (by exact Im.perm (by simp)) ?_
  rw [hk]
  refine cy (hy a k hNl) ?_ (hs:=hF _)
  rintro ok B ⟨rfl,a',ha',rfl⟩
  repeat' first|(refine wo ?_;first|refine oa ?_)|(refine gc ?_;first|refine cf ?_)|refine xc ?_|refine nl ?_|refine sk ?_|refine xb ?_
  refine lp (a',seen.push e.born) ⟨by dsimp only;rw [ha',List.nodup_append];exact ⟨h1,by simp,fun x hx y hy e=>hka (by rw [List.mem_singleton.1 hy] at e;rw [← e];exact hx)⟩,fun k'=>?_⟩ (G:=[]) (hf:=?_) (hlt:=left_shrinks es seen e he)
  ·dsimp only
   rw [ha',List.mem_append,List.mem_singleton,h2]
   constructor
   ·rintro (⟨e',h3,h4,h5⟩ | rfl)
    ·exact ⟨e',h3,h4,by rw [contains_push,h5];rfl⟩
    ·exact ⟨e,he1,hk,by rw [contains_push];simp⟩
   ·rintro ⟨e',h3,h4,h5⟩
    rw [contains_push,Bool.or_eq_true] at h5
    rcases h5 with h5 | h5
    ·exact .inl ⟨e',h3,h4,h5⟩
    ·have hb:e'.born = e.born:=by simpa using h5
     have:=born_inj hnd h3 he1 hb
     subst this;rw [hk] at h4;cases h4;exact .inr rfl
  ·dsimp only;rw [List.append_nil];exact Fit.comm [mit r b clock (seen.push e.born) clock,lme b es clock,lpt c [mp b] 160] (J a')
theorem Keys_tr (b:Nat):Tr Tryz.prog 135 [mp b] [] [] fun v D=>∃ c,v = .func (.func 193) #[] #[ptr c]∧D = [pt c [mp b] 160]:=by
 refine Tr.enter env _ Tryz.func135 (by kernel_rfl) rfl Tryz.ntmps135 rfl (by repeat (first | exact has00 | refine has01 ?_)) fun w0=>?_
 repeat' first|refine bx1 fun c=>?_|(refine wo ?_;first|refine oa ?_)|refine sq ?_|refine rg ?_|refine xc ?_|refine nl ?_|refine rt ?_
 exact r1 ⟨c,rfl,rfl⟩
theorem srt_keys {k:Int} {p:Int→Bool} {zs:List Int} (h:zs.Nodup) (hz:∀ x,x ∈ zs ↔ (0 ≤ x∧x < k)∧p x = true):srt zs = (belowI k).filter p:=by
 have h2:((belowI k).filter p).Pairwise (· < ·):=(belowI_sorted k).sublist List.filter_sublist
 refine List.Perm.eq_of_pairwise (le:=(· ≤ ·)) (fun a b _ _ h1 h2=>by omega) (srt_sorted zs) (h2.imp fun h=>Int.le_of_lt h) ?_
 refine (srt_perm zs).trans ?_
 rw [List.perm_ext_iff_of_nodup h (h2.imp fun h e=>by omega)]
 intro x
 rw [hz,List.mem_filter,mem_belowI]
theorem nodup_len {zs L:List Int} (h1:zs.Nodup) (hL:L.Nodup) (h:∀ x ∈ zs,x ∈ L):zs.length ≤ L.length:=by
 have hp:zs.Perm (L.filter fun x=>decide (x ∈ zs)):=by
  rw [List.perm_ext_iff_of_nodup h1 (hL.sublist List.filter_sublist)]
  intro x
  rw [List.mem_filter,decide_eq_true_eq]
  exact ⟨fun hx=>⟨h x hx,hx⟩,fun hx=>hx.2⟩
 rw [hp.length_eq];exact List.length_filter_le _ _
noncomputable def largeR (k:Int) (ls:List (List Int)):List Int:=if stopE k ls = 0 then largeL k ls else []
theorem Largest_tr (k:Int) (s:Value) (hs:List Value) (ls:List (List Int)) (hn:ls.length ≤ 4096):Tr Tryz.prog 77 [I k,s] [vw s hs,vels hs ls] [] fun v D=>∃ o,v = tup2 o (I (stopE k ls))∧D = [own 3 o (Is (largeR k ls))]:=by
 refine Tr.enter env _ Tryz.func77 (by kernel_rfl) rfl Tryz.ntmps77 rfl (by repeat (first | exact has00 | refine has01 ?_)) fun w0=>?_
 refine TC.els (hs:=hs) (ls:=ls) (fun hl=>?_)
 repeat' first|(refine gca ?_;first|(refine ca (refuses_tr _ _ _ ls) ?_;rintro _ _ ⟨rfl,rfl⟩))|(refine wo ?_;first|(refine ao ?_;first|refine oa ?_)|refine oa ?_)|(refine gc ?_;first|(refine cn (fun hB=>?_) (fun hB=>?_) <;> try (exfalso;omega)))|refine sq ?_|refine rg ?_|refine xc ?_|refine nl ?_|refine sk ?_|refine rt ?_
 ·refine TX.im (own_nil 3 _) ?_
  exact r2 ⟨nS,rfl,by rw [largeR,if_neg (by assumption)]⟩
 have hE:stopE k ls = 0:=hB
 obtain ⟨hk1,hk2,hsets⟩:=stopE_zero hE
 refine ca (unknown_tr k s hs ls hE hn) ?_
 rintro _ _ ⟨b,G,g,rfl,rfl,hG⟩
 obtain ⟨-,hkn⟩:=known_of (k:=k) (ls:=ls) (left G) (fun s h0 h1=>by rw [hG];simp [h0,h1])
 have hleft:∀ x,(ones G x).isSome = true ↔ left G x = true:=fun x=>by unfold ones left;cases G x <;> simp
 have hD:∀ zs,KeysOf (ones G) zs→srt zs = largeL k ls:=fun zs h=>by
  rw [hkn]
  refine srt_keys h.1 fun x=>?_
  rw [h.2,hleft]
  exact ⟨fun h=>⟨((hG x).1 h).1,h⟩,fun h=>h.2⟩
 have hN:∀ zs:List Int,zs.Nodup→(∀ x ∈ zs,(ones G x).isSome = true)→zs.length ≤ 65536:=fun zs h1 h2=>by
  have:=nodup_len h1 ((belowI_sorted k).imp fun h e=>by omega) fun x hx=>mem_belowI.2 ((hG x).1 ((hleft x).1 (h2 x hx))).1
  rw [belowI_len] at this;omega
 repeat' first|(refine gca ?_;first|(refine ca (Keys_tr b) ?_;rintro _ _ ⟨c,rfl,rfl⟩))|(refine wo ?_;first|(refine ao ?_;first|refine aw ?_|refine aw6 ?_|refine oa ?_|refine adiv ?_|refine amod ?_|refine shr1 ?_|refine shr ?_|refine umod ?_|refine isl ?_|refine ipe ?_|refine ipn ?_|refine ibe ?_)|refine acw ?_|refine ucv ?_|refine anw ?_|refine oa ?_|refine ld ?_|refine ldl ?_|refine lnm ?_|refine ixmn ?_|refine ixm ?_|refine li ?_|refine lb ?_|refine lv ?_|refine ln ?_|refine ixn ?_|refine ix ?_|refine le ?_|refine sr ?_|refine soi ?_|refine sob ?_|refine scm ?_|refine sclm ?_|refine schm ?_|refine gy ?_|refine gn ?_|refine gnn ?_|refine gu ?_|(refine gsi (fun hB=>?_) (fun hB=>?_) <;> try (exfalso;omega))|(refine gsn (fun hB=>?_) (fun hB=>?_) <;> try (exfalso;omega))|(refine gs (fun hB=>?_) (fun hB=>?_) <;> try (exfalso;omega)))|(refine gc ?_;first|refine ct ?_|refine cf ?_|(refine ci (fun hB=>?_) (fun hB=>?_) <;> try (exfalso;omega))|(refine cn (fun hB=>?_) (fun hB=>?_) <;> try (exfalso;omega))|(refine cb (fun hB=>?_) (fun hB=>?_) <;> try (exfalso;omega)))|refine sq ?_|refine rg ?_|refine xc ?_|refine nl ?_|refine sk ?_|refine bk ?_|refine xe ?_|refine rt ?_|refine xb ?_
 refine ca (Sorted_tr (Keys1_seq c b (ones G) 65536 hN) (by decide)) ?_ (hp:=has1 hasA (has1 (has_mow (T:=3) (g:=g) (o:=none) memA) has0))
 rintro v _ ⟨zs,hz,rfl⟩
 rw [show largeR k ls = largeL k ls by rw [largeR,if_pos hE],hD zs hz,hE]
 repeat' first|(refine wo ?_;first|refine oa ?_)|refine xc ?_|refine nl ?_|refine rt ?_
 exact r2 ⟨v,rfl,rfl⟩
end Go.Art
namespace Go.Art
open Go Go.Proofs Go.RowKit
abbrev irow (s:Value) (q:Rat) (h:Value × Value):List Value:=s :: rrow q h
def ics (ss:List Value) (qs:List Rat) (hs:List (Value × Value)):List Value:=(List.zipWith List.cons ss (List.zipWith rrow qs hs)).flatten
theorem has_velsI {F:List Ch} {hs:List Value} {ls:List (List Int)} (h:Has F (velg I hs ls)):Has F (vels hs ls):=⟨h.P,fun _ h=>h,fun _ h=>h,fun b hb=>h.ft b hb⟩
section
variable {P:Program} {E:Env P} {n:Sh} {fr:Fr} {A A' D G:List Ch} {m:Nat}
end
abbrev TIm:TypeId:=125
abbrev TSm:TypeId:=110
attribute [local irreducible] Fit pt own ro vw mpc lpt vels rels mow lrc dfr
attribute [local irreducible] lmp lme mit velg relg bnd owl dfrl
end Go.Art
namespace Go.Art
open Go Go.Proofs Go.RowKit
def sumW (W:List (List Int)→Bool) (L:List (List Int × Nat)) (D n:Nat):Fr3 × Int:=
 if L.length ≤ 4096∧L.length ^ n ≤ 4096 then (rqf (mkRat ((natG W L n [] 1:Nat):Int) (D ^ n)),0) else (rqn,4)
abbrev fracs (L:List (List Int × Nat)) (D:Nat):List Rat:=L.map fun s=>mkRat ((s.2:Nat):Int) D
theorem elg_one {g:Int→Value} {F:List Ch} {ss:List Value} {ls:List (List Int)} (h:Has F (velg g ss ls)) {i:Nat} (hi:i < ls.length) (w:World) (hw:Sat F w):(ss.getD i nS).oneCell' = true:=by
 obtain ⟨_,_,e,_⟩:=((has_elg h hi).P w hw:Sl w _ _)
 rw [e];rfl
structure SmG where
 j:Nat
 vn:Value
 vd:Value
structure SnG where
 j:Nat
 sv:Value
 mv:Value
attribute [local irreducible] Fit pt own ro vw mpc lpt vels rels mow lrc dfr
attribute [local irreducible] lmp lme mit velg relg bnd owl dfrl accN natG tupN prdW
end Go.Art
namespace Go.Art
open Go Go.Proofs Go.RowKit
theorem bnd_swap {X:Ch} {C:List Ch} {w:World}:Sat [X,Go.Art.bnd C] w ↔ Sat (C ++ [X]) w:=
 ⟨fun h=>bnd_sat.1 (h.perm (List.Perm.swap _ _ _)),fun h=>(bnd_sat.2 h).perm (List.Perm.swap _ _ _)⟩
theorem bnd_wr2 {X:Ch} {C:List Ch} {b:Nat}:wrs [X,Go.Art.bnd C] b ↔ wrs (C ++ [X]) b:=by
 rw [← bnd_wrs]
 constructor
 ·rintro ⟨c,hc,h⟩
  exact ⟨c,by simp only [List.mem_cons,List.not_mem_nil,or_false] at hc ⊢;exact hc.symm,h⟩
 ·rintro ⟨c,hc,h⟩
  exact ⟨c,by simp only [List.mem_cons,List.not_mem_nil,or_false] at hc ⊢;exact hc.symm,h⟩
theorem bnd_rd2 {X:Ch} {C:List Ch} {b:Nat}:rds [X,Go.Art.bnd C] b ↔ rds (C ++ [X]) b:=by
 rw [← bnd_rds]
 constructor
 ·rintro ⟨c,hc,h⟩
  exact ⟨c,by simp only [List.mem_cons,List.not_mem_nil,or_false] at hc ⊢;exact hc.symm,h⟩
 ·rintro ⟨c,hc,h⟩
  exact ⟨c,by simp only [List.mem_cons,List.not_mem_nil,or_false] at hc ⊢;exact hc.symm,h⟩
theorem Ty.bndX {P:Program} {l:Nat} {vs:List Value} {X:Ch} {pre C:List Ch} {R:Bool→List Ch→Prop} (h:Ty P l vs pre (C ++ [X]) fun b D=>R b [Go.Art.bnd D]):Ty P l vs pre [X,Go.Art.bnd C] R:=by
 refine ⟨fun w hw=>?_,h.lent⟩
 have h1:Sat (pre ++ (C ++ [X])) w:=by
  obtain ⟨a1,a2,a3⟩:=Sat.app.1 hw
  refine Sat.app.2 ⟨a1,bnd_swap.1 a2,fun a ha c hc=>?_⟩
  rcases List.mem_append.1 hc with hc | hc
  ·have a5:=a3 a ha (Go.Art.bnd C) (by simp)
   exact ⟨fun b hb hf=>a5.1 b hb (bnd_ft.2 ⟨c,hc,hf⟩),fun b hb hf=>a5.2 b ⟨c,hc,hb⟩ hf⟩
  ·rw [List.mem_singleton.1 hc];exact a3 a ha X (List.Mem.head _)
 have e1:∀ {D:List Ch} {b:Nat},wrs [Go.Art.bnd D] b ↔ wrs D b:=fun {D b}=>by have:=bnd_wrs (C:=D) (F:=[]) (b:=b);rwa [List.append_nil] at this
 have e2:∀ {D:List Ch} {b:Nat},rds [Go.Art.bnd D] b ↔ rds D b:=fun {D b}=>by have:=bnd_rds (C:=D) (F:=[]) (b:=b);rwa [List.append_nil] at this
 refine (h.run w h1).mono fun b w' ⟨B,hR,hS,hM,hB⟩=>⟨[Go.Art.bnd B],hR,bnd_sat.2 (by rw [List.append_nil];exact hS),⟨hM.os,hM.tape,hM.output,hM.size,fun k hk hn=>hM.block k hk fun hm=>hn (bnd_wr2.2 hm),fun x hx=>?_,fun x hx=>?_⟩,fun c hc x hx=>?_⟩
 ·rcases hM.wr x (e1.1 hx) with h2 | h2
  ·exact .inl (bnd_wr2.2 h2)
  ·exact .inr h2
 ·rcases hM.rd x (e2.1 hx) with h2 | h2 | h2
  ·exact .inl (bnd_wr2.2 h2)
  ·exact .inr (.inl (bnd_rd2.2 h2))
  ·exact .inr (.inr h2)
 ·obtain rfl:=List.mem_singleton.1 hc
  obtain ⟨y,hy,h2⟩:=hx
  exact hB y hy x h2
structure SeqO (P:Program) (f:FuncId) (cap:Array Value) (T:TypeId) (pre:List Ch) (L:List (List Int)):Prop where
 run:∀ {α:Type} (l:Nat) (J:α→Ch) (pl:α→Nat→Prop) (S:α→Prop) (a0:α),pl a0 0→(∀ a b,¬ (J a).bd b) →
  (∀ a i x,x.oneCell' = true→pl a i→i < L.length→Ty P l [x] [] [own T x (Is (L.getD i [])),J a] fun ok B=>∃ a',B = [J a']∧((ok = true∧pl a' (i + 1))∨(ok = false∧S a'))) →
  Tr P f (yv l :: cap.toList) pre [J a0] fun _ B=>∃ a,B = [J a]∧(pl a L.length∨S a)
 lent:∀ c ∈ pre,∀ b,¬ c.wr b∧¬ c.rd b
open Go Go.Proofs Go.RowKit
attribute [local irreducible] Fit pt own ro vw mpc lpt vels rels mow lrc dfr
attribute [local irreducible] lmp lme mit velg relg bnd owl dfrl
theorem of_tr (v:Value) (k f d:Int) (hv:v.oneCell' = true):Tr Tryz.prog 73 [I k,I f,I d,v] [] [] fun u D=>∃ pd ps pf pk,u = .func (.func 126) #[] #[ptr pd,ptr ps,ptr pf,ptr pk]∧D = [pt ps [v] TLs,pt pd [I d] TLI,pt pf [I f] TLI,pt pk [I k] TLI]:=by
 refine Tr.enter env _ Tryz.func73 (by kernel_rfl) rfl Tryz.ntmps73 rfl (by repeat (first | exact has00 | refine has01 ?_)) fun w0=>?_
 repeat' first|refine bx1 fun b=>?_|(refine wo ?_;first|refine oa ?_)|refine sq ?_|refine rg ?_|refine xc ?_|refine nl ?_|refine rt ?_
 exact r1 ⟨_,_,_,_,rfl,rfl⟩
theorem of1_seq:∀ (d f k:Nat) (b:List Int) (pd ps pf pk:Nat) (v:Value),k ≤ 65536→f ≤ 65537→b.length + d ≤ 100000→v.oneCell' = true→SeqO Tryz.prog 126 #[ptr pd,ptr ps,ptr pf,ptr pk] TLI [lpt pd [I d] TLI,lpt ps [v] TLs,lpt pf [I f] TLI,lpt pk [I k] TLI,vw v (Is b)] (risL d f k b)
 | 0,f,k,b,pd,ps,pf,pk,v,hk,hf,hb,hv=>by
  refine ⟨fun {α} l J pl S a0 h0 hnb hy=>?_,by repeat (first | exact has00 | refine has01 ?_)⟩
  haveI:∀ a,NoB (J a):=fun a=>⟨hnb a⟩
  have h1:=fun x hx=>hy a0 0 x hx h0 (by simp [risL])
  rw [show (risL 0 f k b).getD 0 [] = b from rfl] at h1
  refine Tr.enterM env _ Tryz.func126 (by kernel_rfl) rfl Tryz.ntmps126 rfl (by repeat (first | exact has00 | refine has01 ?_)) fun w0=>?_
  repeat' first|refine bx1 fun q=>?_|(refine wo ?_;first|(refine ao ?_;first|refine oa ?_)|refine ldl ?_)|(refine gc ?_;first|refine ct ?_)|refine sq ?_|refine rg ?_|refine xc ?_|refine nl ?_
  refine rs (fun w=>w.heap[q]? = some (.cells [yv l].toArray TYl (0,0))∧w.heap[ps]? = some (.cells [v].toArray TLs (0,0))) ?_ (fun w hw=>⟨pt_at memA hw,lpt_at memA hw⟩)
  refine tkl 0 (cs:=[yv l]) (fun w h=>h.1) ?_
  refine tkl 1 (cs:=[v]) (fun w h=>h.2) ?_
  refine t1 2 ?_
  refine ca (ICloneN_tr v b (by omega)) ?_
  rintro x _ ⟨hx,rfl⟩
  refine nl ?_
  refine te (fun w hw=>⟨pt_at memA hw,lpt_at memA hw⟩) ?_
  refine t1 3 ?_
  refine cy (h1 x hx) ?_
  rintro ok _ ⟨a1,rfl,hs⟩
  refine nl ?_
  refine te (fun w hw=>⟨pt_at memA hw,lpt_at memA hw⟩) ?_
  refine t0 ?_
  repeat' first|refine xc ?_|refine rt ?_
  refine TX.im (dfrl_nil _) ?_
  exact m0 (Ds:=[]) ⟨a1,rfl,hs.imp (·.2) (·.2)⟩
 | d + 1,f,k,b,pd,ps,pf,pk,v,hk,hf,hb,hv=>by
  refine ⟨fun {α} l J pl S a0 h0 hnb hy=>?_,by repeat (first | exact has00 | refine has01 ?_)⟩
  haveI:∀ a,NoB (J a):=fun a=>⟨hnb a⟩
  refine Tr.enterM env _ Tryz.func126 (by kernel_rfl) rfl Tryz.ntmps126 rfl (by repeat (first | exact has00 | refine has01 ?_)) fun w0=>?_
  repeat' first|refine bx1 fun q=>?_|(refine wo ?_;first|(refine ao ?_;first|refine oa ?_)|refine oa ?_|refine ldl ?_)|(refine gc ?_;first|refine cf ?_)|refine sq ?_|refine rg ?_|refine xc ?_|refine nl ?_|refine sk ?_|refine bk ?_
  refine TC.im (dfrl_nil _) ?_
  refine TC.loopD (ι:=EnG α) (fun g=>g.Ds) (fun g=>[(6,I ((f + g.i:Nat):Int))]) (fun g=>[dfrl g.Ds,pt q [yv l] TYl,J g.a]) (fun g=>g.i ≤ k - d - f∧pl g.a ((List.range g.i).flatMap fun j:Nat=>risL d (f + j + 1) k (b ++ [((f + j:Nat):Int)])).length) (fun g=>k - d - f - g.i) ⟨0,a0,[]⟩ [1,2,3,4,5] ⟨Nat.zero_le _,h0⟩ ?_
  rintro ⟨i,a,Ds⟩ ⟨hi,ha⟩
  dsimp only at hi ha ⊢
  by_cases hlt:i < k - d - f
  ·have ih:=fun pd ps pf pk v hv=>of1_seq d (f + i + 1) k (b ++ [((f + i:Nat):Int)]) pd ps pf pk v hk (by omega) (by simp;omega) hv
   have hg:=fun j (hj:j < (risL d (f + i + 1) k (b ++ [((f + i:Nat):Int)])).length)=>fm_get (fun j:Nat=>risL d (f + j + 1) k (b ++ [((f + j:Nat):Int)])) hlt hj []
   have hE:=fun v hv=>of_tr v (k:Int) ((f + i + 1:Nat):Int) (d:Int) hv
   have hlen:=fm_len (fun j:Nat=>risL d (f + j + 1) k (b ++ [((f + j:Nat):Int)])) i
   have hbl:b.length + 1 ≤ 17592186044416:=by omega
   have hdb:d ≤ 100000:=by omega
   clear hb
   repeat' first|(refine wo ?_;first|(refine ao ?_;first|refine aw ?_|refine oa ?_)|refine oa ?_|refine ldl ?_)|(refine gc ?_;first|(refine ci (fun hB=>?_) (fun hB=>?_) <;> try (exfalso;omega)))|refine sq ?_|refine rg ?_|refine xc ?_|refine nl ?_|refine sk ?_|refine bk ?_
   refine rs (fun w=>w.heap[ps]? = some (.cells [v].toArray TLs (0,0))∧w.heap[pk]? = some (.cells [I k].toArray TLI (0,0))∧w.heap[pd]? = some (.cells [I ((d + 1:Nat):Int)].toArray TLI (0,0))) ?_ (fun w hw=>⟨lpt_at memA hw,lpt_at memA hw,lpt_at memA hw⟩)
   refine tkl 0 (cs:=[I k]) (fun w h=>h.2.1) ?_
   refine tka 1 ?_
   refine tkw 2 ((f + i + 1:Nat):Int) ?_
   refine tkl 3 (cs:=[I ((d + 1:Nat):Int)]) (fun w h=>h.2.2) ?_
   refine tkw 4 (d:Int) ?_
   refine tkl 5 (cs:=[v]) (fun w h=>h.1) ?_
   refine tka 7 ?_
   refine t2 6 8 ?_ ?_
   ·refine ca (Clip_tr v b) ?_
    rintro _ _ ⟨rfl,rfl⟩
    refine nl ?_
    refine te (fun w hw=>⟨lpt_at memA hw,lpt_at memA hw,lpt_at memA hw⟩) ?_
    refine t1 8 ?_
    refine slii [((f + i:Nat):Int)] fun v1=>?_
    refine nl ?_
    refine te (fun w hw=>⟨lpt_at memA hw,lpt_at memA hw,lpt_at memA hw⟩) ?_
    refine t1 9 ?_
    refine apc (v:=v) (l:=b) (news:=[((f + i:Nat):Int)]) (fun v2 hv2=>?_)
    refine nl ?_
    refine te (fun w hw=>⟨lpt_at memA hw,lpt_at memA hw,lpt_at memA hw⟩) ?_
    refine t1 10 ?_
    refine ca (hE v2 hv2) ?_
    rintro _ _ ⟨pd2,ps2,pf2,pk2,rfl,rfl⟩
    refine nl ?_
    refine te (fun w hw=>⟨lpt_at memA hw,lpt_at memA hw,lpt_at memA hw⟩) ?_
    refine t0 ?_
    repeat' first|refine xc ?_|refine bk ?_
    have hS:=@SeqO.run _ _ _ _ _ _ (ih pd2 ps2 pf2 pk2 v2 hv2)
    clear ih hE
    refine TC.range [lpt pd2 [I d] TLI,lpt ps2 [v2] TLs,lpt pf2 [I ((f + i + 1:Nat):Int)] TLI,lpt pk2 [I k] TLI,vw v2 (Is (b ++ [((f + i:Nat):Int)]))] [pt q [yv l] TYl,J a] (fun l2 rec Dm pend B'=>∃ a',B' = [dfr Dm,pt q [yv l] TYl,J a']∧((pend = none∧pl a' ((List.range (i + 1)).flatMap fun j:Nat=>risL d (f + j + 1) k (b ++ [((f + j:Nat):Int)])).length)∨(pend = some .ret∧S a'))) ?_ ?_
    ·intro rec l2 Dm hr
     refine Tr.unb (hS (α:=α × Bool) l2 (fun p=>bnd [lrc l2 rec (bif p.2 then .done else .ready) (bif p.2 then some .ret else none),dfr Dm,pt q [yv l] TYl,J p.1]) (fun p j=>p.2 = false∧pl p.1 (((List.range i).flatMap fun j:Nat=>risL d (f + j + 1) k (b ++ [((f + j:Nat):Int)])).length + j)) (fun p=>p.2 = true∧S p.1) (a,false) ⟨rfl,ha⟩ (fun p=>bnd_nob (nb1 (nb1 (nb1 (nb1 nb0))))) ?_) ?_
     ·rintro ⟨a1,s⟩ j x hx ⟨hs1,hpl⟩ hj
      dsimp only at hs1 hpl
      subst hs1
      obtain ⟨hg1,hg2⟩:=hg j hj
      have h2:=hy a1 _ x hx hpl hg1
      rw [show (risL (d + 1) f k b).getD _ [] = (risL d (f + i + 1) k (b ++ [((f + i:Nat):Int)])).getD j [] from hg2] at h2
      refine Ty.bndX ?_
      generalize (risL d (f + i + 1) k (b ++ [((f + i:Nat):Int)])).getD j [] = row at *
      show Ty _ _ _ _ (lrc l2 rec .ready none :: [dfr Dm,pt q [yv l] TYl,J a1,own TLI x (Is row)]) _
      refine Ty.intro env hr (by repeat (first | exact has00 | refine has01 ?_)) fun w1=>?_
      repeat' first|refine xbeg ?_|(refine cy h2 ?_;rintro ok _ ⟨a2,rfl,⟨rfl,h3⟩ | ⟨rfl,h3⟩⟩)|(refine wo ?_;first|refine oa ?_|refine ld ?_)|(refine gc ?_;first|refine ct ?_|refine cf ?_)|refine sq ?_|refine rg ?_|refine xc ?_|refine nl ?_|refine sk ?_|refine bk ?_|refine rt ?_|refine xb ?_
      ·exact yn ⟨(a2,false),rfl,.inl ⟨rfl,rfl,h3⟩⟩
      ·exact yr ⟨(a2,true),rfl,.inr ⟨rfl,rfl,h3⟩⟩
     ·rintro _ _ ⟨⟨a1,s⟩,rfl,⟨hs1,h3⟩ | ⟨hs1,h3⟩⟩
      ·dsimp only at hs1 h3
       subst hs1
       exact ⟨_,rfl,.ready,none,_,rfl,by decide,a1,rfl,.inl ⟨rfl,by rw [hlen];exact h3⟩⟩
      ·dsimp only at hs1 h3
       subst hs1
       exact ⟨_,rfl,.done,some .ret,_,rfl,by decide,a1,rfl,.inr ⟨rfl,h3⟩⟩
    ·rintro l2 rec Dm pend B' ⟨a1,rfl,⟨rfl,h3⟩ | ⟨rfl,h3⟩⟩
     ·show TX env _ _ _ _ _ _
      refine TX.im (dfrl_push (D:=Dm) (Ds:=Ds) fitA) ?_
      repeat' first|(refine wo ?_;first|(refine ao ?_;first|refine aw ?_)|refine oa ?_)|refine rg ?_|refine xc ?_|refine nl ?_|refine xb ?_
      exact lpD ⟨i + 1,a1,Dm :: Ds⟩ ⟨hlt,h3⟩
     ·show TC env _ _ _ _ _ _
      refine TC.im (dfrl_push (D:=Dm) (Ds:=Ds) fitA) ?_
      repeat' first|refine rt ?_
      exact m0 (Ds:=Dm :: Ds) ⟨a1,rfl,.inr h3⟩
   ·refine slii [((f + i:Nat):Int)] fun v1=>?_
    refine nl ?_
    refine te (fun w hw=>⟨lpt_at memA hw,lpt_at memA hw,lpt_at memA hw⟩) ?_
    refine t1 6 ?_
    refine ca (Clip_tr v b) ?_
    rintro _ _ ⟨rfl,rfl⟩
    refine nl ?_
    refine te (fun w hw=>⟨lpt_at memA hw,lpt_at memA hw,lpt_at memA hw⟩) ?_
    refine t1 9 ?_
    refine apc (v:=v) (l:=b) (news:=[((f + i:Nat):Int)]) (fun v2 hv2=>?_)
    refine nl ?_
    refine te (fun w hw=>⟨lpt_at memA hw,lpt_at memA hw,lpt_at memA hw⟩) ?_
    refine t1 10 ?_
    refine ca (hE v2 hv2) ?_
    rintro _ _ ⟨pd2,ps2,pf2,pk2,rfl,rfl⟩
    refine nl ?_
    refine te (fun w hw=>⟨lpt_at memA hw,lpt_at memA hw,lpt_at memA hw⟩) ?_
    refine t0 ?_
    repeat' first|refine xc ?_|refine bk ?_
    have hS:=@SeqO.run _ _ _ _ _ _ (ih pd2 ps2 pf2 pk2 v2 hv2)
    clear ih hE
    refine TC.range [lpt pd2 [I d] TLI,lpt ps2 [v2] TLs,lpt pf2 [I ((f + i + 1:Nat):Int)] TLI,lpt pk2 [I k] TLI,vw v2 (Is (b ++ [((f + i:Nat):Int)]))] [pt q [yv l] TYl,J a] (fun l2 rec Dm pend B'=>∃ a',B' = [dfr Dm,pt q [yv l] TYl,J a']∧((pend = none∧pl a' ((List.range (i + 1)).flatMap fun j:Nat=>risL d (f + j + 1) k (b ++ [((f + j:Nat):Int)])).length)∨(pend = some .ret∧S a'))) ?_ ?_
    ·intro rec l2 Dm hr
     refine Tr.unb (hS (α:=α × Bool) l2 (fun p=>bnd [lrc l2 rec (bif p.2 then .done else .ready) (bif p.2 then some .ret else none),dfr Dm,pt q [yv l] TYl,J p.1]) (fun p j=>p.2 = false∧pl p.1 (((List.range i).flatMap fun j:Nat=>risL d (f + j + 1) k (b ++ [((f + j:Nat):Int)])).length + j)) (fun p=>p.2 = true∧S p.1) (a,false) ⟨rfl,ha⟩ (fun p=>bnd_nob (nb1 (nb1 (nb1 (nb1 nb0))))) ?_) ?_
     ·rintro ⟨a1,s⟩ j x hx ⟨hs1,hpl⟩ hj
      dsimp only at hs1 hpl
      subst hs1
      obtain ⟨hg1,hg2⟩:=hg j hj
      have h2:=hy a1 _ x hx hpl hg1
      rw [show (risL (d + 1) f k b).getD _ [] = (risL d (f + i + 1) k (b ++ [((f + i:Nat):Int)])).getD j [] from hg2] at h2
      refine Ty.bndX ?_
      generalize (risL d (f + i + 1) k (b ++ [((f + i:Nat):Int)])).getD j [] = row at *
      show Ty _ _ _ _ (lrc l2 rec .ready none :: [dfr Dm,pt q [yv l] TYl,J a1,own TLI x (Is row)]) _
      refine Ty.intro env hr (by repeat (first | exact has00 | refine has01 ?_)) fun w1=>?_
      repeat' first|refine xbeg ?_|(refine cy h2 ?_;rintro ok _ ⟨a2,rfl,⟨rfl,h3⟩ | ⟨rfl,h3⟩⟩)|(refine wo ?_;first|refine oa ?_|refine ld ?_)|(refine gc ?_;first|refine ct ?_|refine cf ?_)|refine sq ?_|refine rg ?_|refine xc ?_|refine nl ?_|refine sk ?_|refine bk ?_|refine rt ?_|refine xb ?_
      ·exact yn ⟨(a2,false),rfl,.inl ⟨rfl,rfl,h3⟩⟩
      ·exact yr ⟨(a2,true),rfl,.inr ⟨rfl,rfl,h3⟩⟩
     ·rintro _ _ ⟨⟨a1,s⟩,rfl,⟨hs1,h3⟩ | ⟨hs1,h3⟩⟩
      ·dsimp only at hs1 h3
       subst hs1
       exact ⟨_,rfl,.ready,none,_,rfl,by decide,a1,rfl,.inl ⟨rfl,by rw [hlen];exact h3⟩⟩
      ·dsimp only at hs1 h3
       subst hs1
       exact ⟨_,rfl,.done,some .ret,_,rfl,by decide,a1,rfl,.inr ⟨rfl,h3⟩⟩
    ·rintro l2 rec Dm pend B' ⟨a1,rfl,⟨rfl,h3⟩ | ⟨rfl,h3⟩⟩
     ·show TX env _ _ _ _ _ _
      refine TX.im (dfrl_push (D:=Dm) (Ds:=Ds) fitA) ?_
      repeat' first|(refine wo ?_;first|(refine ao ?_;first|refine aw ?_)|refine oa ?_)|refine rg ?_|refine xc ?_|refine nl ?_|refine xb ?_
      exact lpD ⟨i + 1,a1,Dm :: Ds⟩ ⟨hlt,h3⟩
     ·show TC env _ _ _ _ _ _
      refine TC.im (dfrl_push (D:=Dm) (Ds:=Ds) fitA) ?_
      repeat' first|refine rt ?_
      exact m0 (Ds:=Dm :: Ds) ⟨a1,rfl,.inr h3⟩
  ·obtain rfl:i = k - d - f:=by omega
   repeat' first|(refine wo ?_;first|(refine ao ?_;first|refine aw ?_|refine oa ?_)|refine oa ?_|refine ldl ?_)|(refine gc ?_;first|(refine ci (fun hB=>?_) (fun hB=>?_) <;> try (exfalso;omega)))|refine sq ?_|refine rg ?_|refine xc ?_|refine nl ?_|refine xe ?_
   exact m0e ⟨a,rfl,.inl ha⟩
end Go.Art
namespace Go.Art
open Go Go.Proofs Go.RowKit
structure NaG where
 i:Nat
 c:Nat
 o:Value
 ys:List Nat
attribute [local irreducible] Fit pt own ro vw mpc lpt vels rels mow lrc dfr
end Go.Art
namespace Go.Art
open Go Go.Proofs Go.RowKit
def Bt (n b:Nat):Prop:=n < 2 ^ b∧(b = 0∨2 ^ (b - 1) ≤ n)
attribute [local irreducible] Fit pt own ro vw mpc lpt vels rels mow lrc dfr
end Go.Art
namespace Go.Art
open Go Go.Proofs Go.RowKit
attribute [local irreducible] Fit pt own ro vw mpc lpt vels rels mow lrc dfr
end Go.Art
namespace Go.Art
open Go Go.Proofs Go.RowKit
attribute [local irreducible] Fit pt own ro vw mpc lpt vels rels mow lrc dfr
end Go.Art
namespace Go.Art
open Go Go.Proofs Go.RowKit
structure DvG where
 j:Nat
 qs:List Nat
 rs:List Nat
 Q:Nat
section
variable {P:Program} {E:Env P} {n:Sh} {X:Cx} {s:List K} {fr:Fr} {A:List Ch} {ops:Array Oper} {rest:List Oper} {d:Nat} {ty t t':TypeId} {pos:String} {after:Array Edge} {x:Operand}
end
attribute [local irreducible] Fit pt own ro vw mpc lpt vels rels mow lrc dfr
end Go.Art
namespace Go.Art
open Go Go.Proofs Go.RowKit
attribute [local irreducible] Fit pt own ro vw mpc lpt vels rels mow lrc dfr
end Go.Art
namespace Go.Art
open Go Go.Proofs Go.RowKit
def pasc (n:Nat):List (List Int):=(List.range (n + 1)).map fun j=>Zs (dg (chs n j))
abbrev TNN:TypeId:=92
structure NxG where
 i:Nat
 o:Value
 hs:List Value
attribute [local irreducible] Fit pt own ro vw mpc lpt vels rels mow lrc dfr
attribute [local irreducible] lmp lme mit velg relg bnd owl
end Go.Art
namespace Go.Art
open Go Go.Proofs Go.RowKit
theorem chs_bnd:∀ n d,chs n d ≤ 2 ^ n
 | 0,0=>by simp [chs]
 | 0,d + 1=>by simp [chs]
 | n + 1,0=>by rw [show chs (n + 1) 0 = 1 from rfl];exact Nat.one_le_two_pow
 | n + 1,d + 1=>by
  rw [show chs (n + 1) (d + 1) = chs n d + chs n (d + 1) from rfl,Nat.pow_succ]
  have:=chs_bnd n d;have:=chs_bnd n (d + 1);omega
def risJ (d f k j:Nat):List (List Int):=(risR d (f + j + 1) k).map fun l=>((f + j:Nat):Int) :: l
structure RsG where
 i:Nat
 v:Value
 hs:List Value
attribute [local irreducible] Fit pt own ro vw mpc lpt vels rels mow lrc dfr
attribute [local irreducible] lmp lme mit velg relg bnd owl risJ
end Go.Art
namespace Go.Art
open Go Go.Proofs Go.RowKit
attribute [local irreducible] Fit pt own ro vw mpc lpt vels rels mow lrc dfr
end Go.Art
namespace Go.Art
open Go Go.Proofs Go.RowKit
structure RlG where
 i:Nat
 o:Value
 hs:List Value
attribute [local irreducible] Fit pt own ro vw mpc lpt vels rels mow lrc dfr
attribute [local irreducible] lmp lme mit velg relg bnd owl dfrl
def cntR (n S:Nat):Prop:=(n ≤ 4096→n = S)∧(4096 < n→4096 < S)∧n ≤ 8193
end Go.Art
namespace Go.Art
open Go Go.Proofs Go.RowKit
def szL (t:List Int) (k i:Nat):List (List Int):=if t.getD i 0 = 0 then [] else risR (i + 1) 0 k
theorem setP_zero (t:List Int) (k:Nat):setP t k 0 = []:=rfl
theorem setP_succ (t:List Int) (k n:Nat):setP t k (n + 1) = setP t k n ++ szL t k n:=fm_succ _ _
theorem setP_pre (t:List Int) (k:Nat) {i n:Nat} (h:i ≤ n):∃ r,setP t k n = setP t k i ++ r:=fm_pre _ h
theorem szL_len {t:List Int} {k i:Nat}:(szL t k i).length = if t.getD i 0 = 0 then 0 else chs k (i + 1):=by
 unfold szL
 split
 ·rfl
 ·rw [risR_len];rfl
theorem solE_13 {t:List Int} {k:Int} (hz:¬ solE t k = 0):solE t k = 13:=by
 unfold solE at hz ⊢
 split
 ·rfl
 ·split
  ·rename_i a b;exact absurd (by rw [if_neg a,if_pos b]) hz
  ·rfl
theorem setsW_err {t:List Int} {k:Int} (h:¬ solE t k = 0):setsW t k = ([],13):=if_neg h
theorem setsW_long {t:List Int} {k:Int} (h:solE t k = 0) (h2:4096 < (setP t k.toNat t.length).length):setsW t k = ([],4):=by unfold setsW;rw [if_pos h,if_pos h2]
theorem setsW_ok {t:List Int} {k:Int} (h:solE t k = 0) (h2:¬ 4096 < (setP t k.toNat t.length).length):setsW t k = (setP t k.toNat t.length,0):=by unfold setsW;rw [if_pos h,if_neg h2]
attribute [local irreducible] Fit pt own ro vw mpc lpt vels rels mow lrc dfr
attribute [local irreducible] lmp lme mit velg relg bnd owl
structure SrG where
 i:Nat
 v:Value
 hs:List Value
attribute [local irreducible] setP szL solE
end Go.Art
namespace Go.Art
open Go Go.Proofs Go.RowKit
structure StG where
 i:Nat
 v:Value
 hs:List Value
 Ds:List Nat
attribute [local irreducible] Fit pt own ro vw mpc lpt vels rels mow lrc dfr
attribute [local irreducible] lmp lme mit velg relg bnd owl dfrl setP szL solE
theorem MSets_tr (tv:Value) (t:List Int) (k:Int):Tr Tryz.prog 34 [tv,I k] [vw tv (Is t)] []
  fun u D=>∃ v hs,u = tup2 v (I (setsW t k).2)∧v.oneCell' = true∧hs.length = (setsW t k).1.length∧D = [own TLs v hs,owl TLI I hs (setsW t k).1]:=by
 have hC:=SoCheck_tr tv t k
 by_cases hz:solE t k = 0
 rotate_left
 ·rw [setsW_err hz]
  have h13:solE t k = 13:=solE_13 hz
  rw [h13] at hC
  refine Tr.enterM env _ Tryz.func34 (by kernel_rfl) rfl Tryz.ntmps34 rfl (by repeat (first | exact has00 | refine has01 ?_)) fun w0=>?_
  repeat' first|(refine gca ?_;first|(refine ca hC ?_;rintro _ _ ⟨rfl,rfl⟩))|refine al fun c=>?_|(refine wo ?_;first|(refine ao ?_;first|refine oa ?_)|refine oa ?_|refine sr ?_)|(refine gc ?_;first|refine ct ?_)|refine sq ?_|refine rg ?_|refine xc ?_|refine nl ?_|refine rt ?_
  refine TX.im (dfrl_nil _) ?_
  refine TX.im (owl_nil (e:=TLI) (g:=I) _) ?_
  refine TX.im (own_nil TLs _) ?_
  exact mcc (Ds:=[]) (T:=TLL) (T2:=TEr) ⟨nS,[],rfl,rfl,rfl,rfl⟩
 rw [hz] at hC
 obtain ⟨z1,z2,z3,_⟩:=solE_zero hz
 obtain ⟨kn,rfl⟩ : ∃ kn:Nat,k = kn:=⟨k.toNat,by omega⟩
 have hlong:=@setsW_long t kn hz
 have hok:=@setsW_ok t kn hz
 rw [Int.toNat_natCast] at hlong hok
 clear z3 hz
 have hp:=@setP_pre t kn
 refine Tr.enterM env _ Tryz.func34 (by kernel_rfl) rfl Tryz.ntmps34 rfl (by repeat (first | exact has00 | refine has01 ?_)) fun w0=>?_
 refine TC.leni (v:=tv) (l:=t) fun htl=>?_
 repeat' first|(refine gca ?_;first|(refine ca hC ?_;rintro _ _ ⟨rfl,rfl⟩))|refine al fun c=>?_|(refine wo ?_;first|(refine ao ?_;first|refine oa ?_)|refine oa ?_|refine lnm ?_)|(refine gc ?_;first|refine cf ?_)|refine sq ?_|refine rg ?_|refine xc ?_|refine nl ?_|refine sk ?_|refine bk ?_
 rename_i c4 c5
 clear hC
 refine TC.im (owl_nil (e:=TLI) (g:=I) _) ?_
 refine TC.im (own_nil TLs _) ?_
 refine TC.im (dfrl_nil _) ?_
 refine TC.loopD (ι:=StG) (fun g=>g.Ds) (fun g=>[(16,I g.i)]) (fun g=>[dfrl g.Ds,pt c [g.v] TLL,own TLs g.v g.hs,owl TLI I g.hs (setP t kn g.i),pt c4 [nS] TLL,pt c5 [I 0] TEr]) (fun g=>g.i ≤ t.length∧g.v.oneCell' = true∧g.hs.length = (setP t kn g.i).length∧(setP t kn g.i).length ≤ 4096) (fun g=>t.length - g.i) ⟨0,nS,[],[]⟩ [0,1,4,5,6,14,15] ⟨Nat.zero_le _,rfl,by rw [setP_zero];rfl,by rw [setP_zero];exact Nat.zero_le _⟩ ?_ (hf:=by dsimp only;rw [setP_zero];exact fitA)
 rintro ⟨i,v,hs,Ds⟩ ⟨hi,hv,hl,hl2⟩
 dsimp only at hi hv hl hl2 ⊢
 by_cases hlt:i < t.length
 ·have hss:=setP_succ t kn i
  obtain ⟨r2,hr2⟩:=@hp (i + 1) t.length hlt
  clear hp
  by_cases hti:t.getD i 0 = 0
  ·rw [show szL t kn i = [] by unfold szL;exact if_pos hti,List.append_nil] at hss
   repeat' first|refine lie hti ?_|(refine wo ?_;first|(refine ao ?_;first|refine aw ?_|refine oa ?_)|refine oa ?_|refine ixmn ?_)|(refine gc ?_;first|refine ct ?_|(refine ci (fun hB=>?_) (fun hB=>?_) <;> try (exfalso;omega)))|refine sq ?_|refine rg ?_|refine xc ?_|refine nl ?_|refine sk ?_|refine bk ?_|refine xe ?_
   exact lpD ⟨i + 1,v,hs,Ds⟩ ⟨hlt,hv,by dsimp only;rw [hss];exact hl,by dsimp only;rw [hss];exact hl2⟩ (hf:=by dsimp only;rw [hss];exact fitA)
  ·have hO:=of_tr nS (kn:Int) ((0:Nat):Int) ((i + 1:Nat):Int) rfl
   have hseq:=fun pd ps pf pk=>of1_seq (i + 1) 0 kn [] pd ps pf pk nS (by omega) (by omega) (by simp;omega) rfl
   rw [risL_nil,← show szL t kn i = risR (i + 1) 0 kn by unfold szL;exact if_neg hti] at hseq
   rw [hr2,hss] at hlong
   clear hr2 hok
   generalize szL t kn i = L at *
   generalize setP t kn i = M at *
   generalize hy:t.getD i 0 = y at *
   repeat' first|(refine gca ?_;first|(refine ca hO ?_;rintro _ _ ⟨pd,ps,pf,pk,rfl,rfl⟩))|refine lie hy ?_|(refine aw (m:=((i + 1:Nat):Int)) ?_)|(refine wo ?_;first|(refine ao ?_;first|refine oa ?_)|refine oa ?_|refine ixmn ?_)|(refine gc ?_;first|(refine ci (fun hB=>?_) (fun hB=>?_) <;> try (exfalso;omega)))|refine sq ?_|refine rg ?_|refine xc ?_|refine nl ?_|refine sk ?_|refine bk ?_
   have hS:=@SeqO.run _ _ _ _ _ _ (hseq pd ps pf pk)
   clear hseq hO
   rw [show owl TLI I hs M = owl TLI I hs (M ++ L.take 0) by rw [List.take_zero,List.append_nil]]
   refine TC.range [lpt pd [I ((i + 1:Nat):Int)] TLI,lpt ps [nS] TLs,lpt pf [I ((0:Nat):Int)] TLI,lpt pk [I kn] TLI,vw nS (Is [])] [pt c [v] TLL,pt c5 [I 0] TEr,pt c4 [nS] TLL,own TLs v hs,owl TLI I hs (M ++ L.take 0)] (fun l2 rec Dm pend B'=>∃ v hs j,hs.length = M.length + j∧v.oneCell' = true∧((pend = none∧j = L.length∧M.length + j ≤ 4096∧B' = [dfr Dm,pt c [v] TLL,pt c5 [I 0] TEr,pt c4 [nS] TLL,own TLs v hs,owl TLI I hs (M ++ L.take j)])∨(pend = some .ret∧4096 < M.length + L.length∧B' = [dfr Dm,pt c [v] TLL,pt c5 [I 4] TEr,pt c4 [nS] TLL,own TLs v hs,owl TLI I hs (M ++ L.take j)]))) ?_ ?_
   ·intro rec l2 Dm hr
    refine Tr.unb (hS (α:=RwsG) l2 (fun g=>bnd [lrc l2 rec (bif g.st then .done else .ready) (bif g.st then some .ret else none),dfr Dm,pt c [g.v] TLL,pt c5 [I (bif g.st then 4 else 0)] TEr,pt c4 [nS] TLL,own TLs g.v g.hs,owl TLI I g.hs (M ++ L.take g.i)]) (fun g j=>g.st = false∧g.i = j∧g.hs.length = M.length + j∧M.length + j ≤ 4096∧g.v.oneCell' = true) (fun g=>g.st = true∧4096 < M.length + L.length∧g.hs.length = M.length + g.i∧g.v.oneCell' = true) ⟨v,hs,0,false⟩ ⟨rfl,rfl,hl,hl2,hv⟩ (fun p=>bnd_nob (nb1 (nb1 (nb1 (nb1 (nb1 (nb1 (nb1 nb0)))))))) ?_) ?_
    ·rintro ⟨v,hs,j,st⟩ j' x hx ⟨g1,g2,g3,g4,g5⟩ hj
     dsimp only at g1 g2 g3 g4 g5
     subst g1
     subst g2
     have hll:(L.take j).length = j:=by rw [List.length_take];omega
     have htk:=take_succ' hj []
     refine Ty.bndX ?_
     generalize L.getD j [] = row at *
     show Ty _ _ _ _ (lrc l2 rec .ready none :: [dfr Dm,pt c [v] TLL,pt c5 [I 0] TEr,pt c4 [nS] TLL,own TLs v hs,owl TLI I hs (M ++ L.take j),own TLI x (Is row)]) _
     refine Ty.intro env hr (by repeat (first | exact has00 | refine has01 ?_)) fun w1=>?_
     by_cases hfull:M.length + j = 4096
     ·have hlb:4096 < M.length + L.length:=by omega
      repeat' first|refine xbeg ?_|(refine wo ?_;first|(refine ao ?_;first|refine oa ?_)|refine oa ?_|refine ld ?_|refine ln ?_|refine sr ?_)|(refine gc ?_;first|(refine ci (fun hB=>?_) (fun hB=>?_) <;> try (exfalso;omega)))|refine sq ?_|refine rg ?_|refine xc ?_|refine nl ?_|refine bk ?_|refine rt ?_
      exact yr ⟨⟨v,hs,j,true⟩,rfl,.inr ⟨rfl,rfl,hlb,g3,g5⟩⟩
     ·repeat' first|refine xbeg ?_|refine sli (vs:=[x]) (fun q2=>?_) (h1:=one_cons hx one_nil)|(refine ap (xs:=hs) (news:=[x]) (fun o2=>?_) (h1:=one_cons hx one_nil);refine TO.one (v:=o2) (xs:=hs ++ [x]) fun ho2=>?_)|(refine wo ?_;first|(refine ao ?_;first|refine oa ?_)|refine oa ?_|refine ld ?_|refine ln ?_|refine sr ?_)|(refine gc ?_;first|(refine ci (fun hB=>?_) (fun hB=>?_) <;> try (exfalso;omega)))|refine sq ?_|refine rg ?_|refine xc ?_|refine nl ?_|refine sk ?_|refine bk ?_|refine xb ?_
      refine TX.im (owl_push (hs:=hs) (ls:=M ++ L.take j) (v:=x) (l:=row) (by rw [List.length_append,hll];exact g3) fitA) ?_
      rw [List.append_assoc,← htk]
      exact yn ⟨⟨o2,hs ++ [x],j + 1,false⟩,rfl,.inl ⟨rfl,rfl,rfl,by simp [g3];omega,by omega,ho2⟩⟩
    ·rintro _ _ ⟨⟨v,hs,j,st⟩,rfl,⟨g1,g2,g3,g4,g5⟩ | ⟨g1,g2,g3,g4⟩⟩
     ·dsimp only at g1 g2 g3 g4 g5
      subst g1
      exact ⟨_,rfl,.ready,none,_,rfl,by decide,v,hs,j,by omega,g5,.inl ⟨rfl,by omega,by omega,rfl⟩⟩
     ·dsimp only at g1 g2 g3 g4
      subst g1
      exact ⟨_,rfl,.done,some .ret,_,rfl,by decide,v,hs,j,g3,g4,.inr ⟨rfl,g2,rfl⟩⟩
   ·rintro l2 rec Dm pend B' ⟨v,hs,j,g1,g2,⟨rfl,g3,g4,rfl⟩ | ⟨rfl,g3,rfl⟩⟩
    ·show TX env _ _ _ _ _ _
     refine TX.im (dfrl_push (D:=Dm) (Ds:=Ds) fitA) ?_
     rw [g3,List.take_length,← hss]
     repeat' first|(refine wo ?_;first|(refine ao ?_;first|refine aw ?_)|refine oa ?_)|refine rg ?_|refine xc ?_|refine nl ?_|refine xb ?_
     exact lpD ⟨i + 1,v,hs,Dm :: Ds⟩ ⟨hlt,g2,by dsimp only;rw [hss,List.length_append];omega,by dsimp only;rw [hss,List.length_append];omega⟩
    ·show TC env _ _ _ _ _ _
     rw [hlong (by simp only [List.length_append];omega)]
     refine TC.im (dfrl_push (D:=Dm) (Ds:=Ds) fitA) ?_
     repeat' first|refine rt ?_
     refine TX.im (owl_nil (e:=TLI) (g:=I) _) ?_
     refine TX.im (own_nil TLs _) ?_
     exact mcc (Ds:=Dm :: Ds) (T:=TLL) (T2:=TEr) ⟨nS,[],rfl,rfl,rfl,rfl⟩
 ·obtain rfl:i = t.length:=by omega
  rw [hok (by omega)]
  repeat' first|(refine wo ?_;first|(refine ao ?_;first|refine oa ?_)|refine ld ?_|refine sr ?_)|(refine gc ?_;first|(refine ci (fun hB=>?_) (fun hB=>?_) <;> try (exfalso;omega)))|refine sq ?_|refine rg ?_|refine xc ?_|refine nl ?_|refine xe ?_|refine rt ?_
  exact mcc (Ds:=Ds) (T:=TLL) (T2:=TEr) ⟨v,hs,rfl,hv,hl,rfl⟩
end Go.Art
namespace Go.Art
open Go Go.Proofs Go.RowKit
def refE (t:List Int) (k n:Int):Int:=if solE t k = 0 then (if n < 0∨4096 < n then 3 else 0) else 13
def prodC (k:Nat):Nat→Nat
 | 0=>1
 | i + 1=>prodC k i * chs k (i + 1)
def prodX (k d:Nat):Nat→Nat
 | 0=>1
 | i + 1=>if i + 1 = d then prodX k d i else prodX k d i * chs k (i + 1)
theorem prodX_lt {k d:Nat}:∀ {n:Nat},n < d→prodX k d n = prodC k n
 | 0,_=>rfl
 | n + 1,h=>by unfold prodX prodC;rw [if_neg (by omega),prodX_lt (by omega)]
theorem prodX_mul {k d:Nat} (h1:1 ≤ d):∀ {n:Nat},d ≤ n→prodX k d n * chs k d = prodC k n
 | 0,h=>by omega
 | n + 1,h=>by
  unfold prodX prodC
  by_cases e:n + 1 = d
  ·rw [if_pos e,prodX_lt (by omega),e]
  ·rw [if_neg e,← prodX_mul h1 (by omega),Nat.mul_assoc,Nat.mul_comm (chs k (n + 1)),← Nat.mul_assoc]
theorem prodC_pos {k:Nat}:∀ {n:Nat},n ≤ k→prodC k n ≠ 0
 | 0,_=>Nat.one_ne_zero
 | n + 1,h=>by unfold prodC;exact Nat.mul_ne_zero (prodC_pos (by omega)) (chs_pos (by omega))
theorem prodC_le {k:Nat} (hk:k ≤ 40):∀ n,prodC k n ≤ 1099511627776 ^ n
 | 0=>by simp [prodC]
 | n + 1=>by
  unfold prodC
  rw [Nat.pow_succ]
  exact Nat.mul_le_mul (prodC_le hk n) (Nat.le_trans (chs_bnd k (n + 1)) (Nat.le_trans (Nat.pow_le_pow_right (by decide) hk) (by decide)))
theorem prodX_le {k d n:Nat} (h1:1 ≤ d) (h2:d ≤ n) (h3:n ≤ k):prodX k d n ≤ prodC k n:=by
 rw [← prodX_mul h1 h2]
 exact Nat.le_mul_of_pos_right _ (Nat.pos_of_ne_zero (chs_pos (by omega)))
def oneS (t:List Int) (k:Nat):Nat:=t.sum.toNat * prodC k t.length
def wS (t:List Int) (k d:Nat):Nat:=(t.getD (d - 1) 0).toNat * prodX k d t.length
def itemS (t:List Int) (k:Nat):List (List Int × Nat):=(setP t k t.length).map fun s=>(s,wS t k s.length)
theorem itemS_len (t:List Int) (k:Nat):(itemS t k).length = (setP t k t.length).length:=by simp [itemS]
theorem le_sum {t:List Int} (h:∀ w ∈ t,0 ≤ w):∀ w ∈ t,w ≤ t.sum:=by
 induction t with
 | nil=>intro w hw;cases hw
 | cons a r ih=>
  intro w hw
  have h1:0 ≤ r.sum:=by
   clear ih hw
   induction r with
   | nil=>simp
   | cons b s ih2=>
    have:=h b (by simp)
    have:=ih2 fun w hw=>h w (by rcases List.mem_cons.1 hw with rfl | hw;simp;simp [hw])
    simp only [List.sum_cons];omega
  rw [List.sum_cons]
  have ha:=h a (by simp)
  rcases List.mem_cons.1 hw with rfl | hw
  ·omega
  ·have:=ih (fun w hw=>h w (by simp [hw])) w hw;omega
theorem oneS_pos {t:List Int} {k:Nat} (hz:solE t k = 0):oneS t k ≠ 0:=by
 obtain ⟨z1,z2,z3,z4⟩:=solE_zero hz
 have:=sum_posT z3 z4
 exact Nat.mul_ne_zero (by omega) (prodC_pos (by omega))
theorem oneS_lt {t:List Int} {k:Nat} (hz:solE t k = 0) (hk:k ≤ 40) (hl:t.length ≤ 12):oneS t k < 18446744073709551616 ^ 10:=by
 obtain ⟨z1,z2,z3,z4⟩:=solE_zero hz
 have h1:=(sum_wOk z3).2
 have h2:t.sum.toNat ≤ 268435456:=by
  have:(16777215:Int) * t.length ≤ 16777215 * 12:=by omega
  omega
 have h3:=prodC_le hk t.length
 have h4:1099511627776 ^ t.length ≤ 1099511627776 ^ 12:=Nat.pow_le_pow_right (by decide) hl
 have h5:oneS t k ≤ 268435456 * 1099511627776 ^ 12:=Nat.mul_le_mul h2 (Nat.le_trans h3 h4)
 exact Nat.lt_of_le_of_lt h5 (by decide)
theorem wS_le {t:List Int} {k d:Nat} (hz:solE t k = 0) (h1:1 ≤ d) (h2:d ≤ t.length):wS t k d ≤ oneS t k:=by
 obtain ⟨z1,z2,z3,z4⟩:=solE_zero hz
 have hm:t.getD (d - 1) 0 ∈ t:=by rw [List.getD_eq_getElem?_getD,List.getElem?_eq_getElem (by omega)];exact List.getElem_mem (by omega)
 have:=le_sum (fun w hw=>(z3 w hw).1) _ hm
 exact Nat.mul_le_mul (by omega) (prodX_le h1 h2 (by omega))
theorem cha_eq {t:List Int} {k d:Nat} (hz:solE t k = 0) (h1:1 ≤ d) (h2:d ≤ t.length):mkRat (t.getD (d - 1) 0) (chs k d * t.sum.toNat) = mkRat ((wS t k d:Nat):Int) (oneS t k):=by
 obtain ⟨z1,z2,z3,z4⟩:=solE_zero hz
 have hs:=sum_posT z3 z4
 have hm:t.getD (d - 1) 0 ∈ t:=by rw [List.getD_eq_getElem?_getD,List.getElem?_eq_getElem (by omega)];exact List.getElem_mem (by omega)
 have h0:=(z3 _ hm).1
 have hx:prodX k d t.length ≠ 0:=fun e=>by
  have:=prodX_mul (k:=k) h1 h2
  rw [e,Nat.zero_mul] at this
  exact prodC_pos (k:=k) (n:=t.length) (by omega) this.symm
 have:=mk_scale (t.getD (d - 1) 0).toNat (chs k d * t.sum.toNat) (prodX k d t.length) (Nat.mul_ne_zero (chs_pos (by omega)) (by omega)) hx
 rw [Int.toNat_of_nonneg h0] at this
 rw [this]
 congr 1
 unfold oneS
 rw [← prodX_mul (k:=k) h1 h2]
 grind
theorem itemS_mem {t:List Int} {k:Nat} {s:List Int × Nat} (h:s ∈ itemS t k):(1 ≤ s.1.length∧s.1.length ≤ t.length)∧s.2 = wS t k s.1.length∧s.1 ∈ risR s.1.length 0 k:=by
 obtain ⟨l,hl,rfl⟩:=List.mem_map.1 h
 obtain ⟨a1,a2,_,a4⟩:=setP_mem hl
 exact ⟨⟨a1,a2⟩,rfl,a4⟩
theorem itemS_le {t:List Int} {k:Nat} (hz:solE t k = 0):∀ s ∈ itemS t k,s.2 ≤ oneS t k:=fun s h=>by
 obtain ⟨a1,a2,_⟩:=itemS_mem h
 rw [a2];exact wS_le hz a1.1 a1.2
def massW (W:List (List Int)→Bool) (t:List Int) (k n:Int):Fr3 × Int:=
 if refE t k n = 0 then (if (setsW t k).2 = 0 then sumW W (itemS t k.toNat) (oneS t k.toNat) n.toNat else (rqn,4)) else (rqn,refE t k n)
structure DrG where
 i:Nat
 v:Value
 hs:List (Value × Value)
attribute [local irreducible] Fit pt own ro vw mpc lpt vels rels mow lrc dfr
attribute [local irreducible] lmp lme mit velg relg bnd owl setP szL solE risR chaW oneS wS
abbrev itmC (v:Value) (ss:List Value) (hs:List (Value × Value)) (L:List (List Int × Nat)) (D:Nat):List Ch:=[oww TIm 4 v L.length (ics ss (fracs L D) hs),owl TLI I ss (L.map (·.1)),ofr hs (fracs L D)]
noncomputable abbrev failW (k:Int) (ls:List (List Int)):Bool:=decide (0 < (largeR k ls).length)
end Go.Art
namespace Go.Art
open Go Go.Proofs Go.RowKit
def unkS (ls:List (List Int)) (U:List Int):List Int:=U.filter fun s=>!(ls.any fun l=>l.contains s && l.all fun x=>x == s || !U.contains x)
def unkC (ls:List (List Int)):Nat→List Int→List Int
 | 0,U=>U
 | n + 1,U=>unkC ls n (unkS ls U)
def failC (k:Int) (ls:List (List Int)):Bool:=decide (stopE k ls = 0) && !((belowI k).filter fun s=>(unkC ls k.toNat (belowI k)).contains s).isEmpty
open Go
def shw (all:Int) (u:AlS) (c j:Nat):Int:=
 if (c:Int) ∈ u.B ++ u.A then (if c = j then u.rest.getD c 0 else 0) else ((if c = j then u.cut.getD c 0 else 0) + (if u.oth.getD c 0 = j then all - u.cut.getD c 0 else 0))
structure AlM (t:List Int) (all:Int) (u:AlS):Prop where
 op:∀ c:Nat,c < t.length→(c:Int) ∈ u.B ++ u.A→u.cut.getD c 0 = all∧u.oth.getD c 0 = c
 mass:∀ j:Nat,j < t.length→((List.range t.length).map fun c=>shw all u c j).sum = t.getD j 0 * t.length
open Go Go.Proofs Go.RowKit
def rowS (k:Nat) (l:List Int):List Int:=srt (ordF 0 (upto k) (l.drop 2))
def oneR (t:List Int) (k:Nat):Nat:=fall k k * t.length * t.sum.toNat
def wR (k:Nat) (l:List Int):Nat:=fall (k - (l.length - 2)) (k - (l.length - 2))
abbrev rowsA (t:List Int) (k:Nat):List (List Int):=allL t.sum (alF t).cut (alF t).oth k
def itemR (t:List Int) (k:Nat):List (List Int × Nat):=(rowsA t k).map fun l=>(rowS k l,wR k l)
def massD (W:List (List Int)→Bool) (t:List Int) (k n:Int):Fr3 × Int:=
 if refE t k n = 0 then (if (itemR t k.toNat).length ≤ 4096 then sumW W (itemR t k.toNat) (oneR t k.toNat) n.toNat else (rqn,4)) else (rqn,refE t k n)
structure DwG where
 i:Nat
 v:Value
 ss:List Value
 hs:List (Value × Value)
attribute [local irreducible] Fit pt own ro vw mpc lpt vels rels mow lrc dfr
attribute [local irreducible] lmp lme mit velg relg bnd owl setP szL solE risR chaW oneS wS
end Go.Art
