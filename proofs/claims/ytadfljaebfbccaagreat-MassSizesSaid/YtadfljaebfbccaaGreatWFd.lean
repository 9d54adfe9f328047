/- Texts put together: Gt Nm Nn No Np Ar Nu Nv Qa Qb Qc Rp Ma Mc Sp Vd Nq Nr Ns Nt Ia Qp Fa Ac Aw. Conditions: none. -/
import Derived.Test.YtadfljaebfbccaaGreatWFc
set_option linter.unusedSimpArgs false
set_option linter.unusedVariables false
namespace Go.Art
open Go Go.Proofs Go.RowKit
def gotoQ (l:Nat) (L:Act→World→Prop) (Q:Exit→Act→World→Prop):Exit→Act→World→Prop
 | .goto l',a,w=>l' = l∧L a w
 | e,a,w=>Q e a w
theorem wpIn_scopeG {F:Fence} {n:Nat} {P:Program} {Q:Exit→Act→World→Prop} {a:Act} {w:World} {c rest:Code} {l:Nat} (hl:findLabel c l = some rest) (G:Nat→Act→World→Prop) (h:c.wpIn F n P (gotoQ l (fun a w=>∃ j,G j a w) Q) a w)
  (round:∀ j a w,G j a w→rest.wpIn F n P (gotoQ l (fun a w=>∃ j',j' < j∧G j' a w) Q) a w):(Code.scope c).wpIn F n P Q a w:=by
 intro b k cs hro hb hr
 have h0:(lone (b.atR a (.code (.scope c) :: k)) cs w).fenced P F:=fenced_calm hb hr rfl
 have s1:step P (lone (b.atR a (.code (.scope c) :: k)) cs w) = .next (lone (b.atR a (.code c :: .inScope c :: k)) cs w):=step_lone_go (by simp [stepG,stepG.exec,Frame.atR])
 have s2:∀ (a:Act) (w:World),step P (lone (b.atR a (.inScope c :: k)) cs w) = .next (lone (b.atR a k) cs w):=fun a w=>step_lone_go (by simp [stepG,stepG.exec,Frame.atR])
 have hx:∀ id',exitTo id' (.inScope c :: k) = exitTo id' k:=fun id'=>by simp [exitTo]
 have hg:gotoIn l (.inScope c :: k) = some (.code rest :: .inScope c :: k):=by simp [gotoIn,hl]
 -- from inside the scope,by what is left of the jumps
 have fin:∀ (m:Machine) (e:Exit) (a₁:Act) (w₁:World),Q e a₁ w₁→(∀ t,e ≠ .goto t)→ArrivesIn (Machine.fenced P F) P m b (.inScope c :: k) cs e a₁ w₁→∃ e a' w',Q e a' w'∧ArrivesIn (Machine.fenced P F) P m b k cs e a' w':=by
  intro m e a₁ w₁ hq hne harr
  cases e with
  | normal=>exact ⟨.normal,a₁,w₁,hq,StepsIn.trans harr (.one (fenced_calm hb hr rfl) (s2 a₁ w₁))⟩
  | exit id'=>exact ⟨.exit id',a₁,w₁,hq,fun k' hk=>harr.1 k' (by rw [hx];exact hk),fun hr' hk=>harr.2 hr' (by rw [hx];exact hk)⟩
  | goto t=>exact absurd rfl (hne t)
  | ret=>exact ⟨_,a₁,w₁,hq,harr⟩
  | panic ch=>exact ⟨_,a₁,w₁,hq,harr⟩
  | outgrown=>exact ⟨_,a₁,w₁,hq,harr⟩
 have key:∀ j a w,G j a w→∃ e a' w',Q e a' w'∧ArrivesIn (Machine.fenced P F) P (lone (b.atR a (.code rest :: .inScope c :: k)) cs w) b k cs e a' w':=by
  intro j
  induction j using Nat.strongRecOn with
  | _ j ih=>
   intro a w hG
   obtain ⟨e,a₁,w₁,hq,harr⟩:=round j a w hG b (.inScope c :: k) cs hro hb hr
   cases e with
   | goto t=>
    obtain ⟨rfl,j',hlt,hG'⟩:=hq
    obtain ⟨e₂,a₂,w₂,hq₂,harr₂⟩:=ih j' hlt a₁ w₁ hG'
    exact ⟨e₂,a₂,w₂,hq₂,.of_steps (harr.1 _ hg) harr₂⟩
   | normal=>exact fin _ _ a₁ w₁ hq (fun _ h=>by cases h) harr
   | exit id=>exact fin _ _ a₁ w₁ hq (fun _ h=>by cases h) harr
   | ret=>exact fin _ _ a₁ w₁ hq (fun _ h=>by cases h) harr
   | panic ch=>exact fin _ _ a₁ w₁ hq (fun _ h=>by cases h) harr
   | outgrown=>exact fin _ _ a₁ w₁ hq (fun _ h=>by cases h) harr
 have start:∃ e a' w',Q e a' w'∧ArrivesIn (Machine.fenced P F) P (lone (b.atR a (.code c :: .inScope c :: k)) cs w) b k cs e a' w':=by
  obtain ⟨e,a₁,w₁,hq,harr⟩:=h b (.inScope c :: k) cs hro hb hr
  cases e with
  | goto t=>
   obtain ⟨rfl,j',hG'⟩:=hq
   obtain ⟨e₂,a₂,w₂,hq₂,harr₂⟩:=key j' a₁ w₁ hG'
   exact ⟨e₂,a₂,w₂,hq₂,.of_steps (harr.1 _ hg) harr₂⟩
  | normal=>exact fin _ _ a₁ w₁ hq (fun _ h=>by cases h) harr
  | exit id=>exact fin _ _ a₁ w₁ hq (fun _ h=>by cases h) harr
  | ret=>exact fin _ _ a₁ w₁ hq (fun _ h=>by cases h) harr
  | panic ch=>exact fin _ _ a₁ w₁ hq (fun _ h=>by cases h) harr
  | outgrown=>exact fin _ _ a₁ w₁ hq (fun _ h=>by cases h) harr
 obtain ⟨e,a',w',hq,harr⟩:=start
 exact ⟨e,a',w',hq,.of_steps (.one h0 s1) harr⟩
theorem den_goto {P:Program} {r:Option Nat} {Q:Exit→Act→World→Prop} {l:Nat} {a:Act} {w:World} (h:Q (.goto l) a w):∀ s:List K,den P r Q s (.goto l) a w
 | []=>h
 | .code _ :: s=>den_goto h s
 | .block _ :: s=>den_goto h s
 | .loop _ :: s=>den_goto h s
section
variable {P:Program} {E:Env P} {n:Sh} {X:Cx} {s:List K} {fr:Fr} {A F:List Ch} {c B:Code} {e:Exit}
def GoL (n:Sh) (X:Cx) {ι:Type} (inv:ι→Fr) (J:ι→List Ch) (I:ι→Prop) (a:Act) (w:World):Prop:=∃ i,I i∧Holds n a (inv i)∧St X (J i) w
theorem TC.scopeG {ι:Type} (inv:ι→Fr) (J:ι→List Ch) (I:ι→Prop) (μ:ι→Nat) {l:Nat}
  (h2:∀ i,I i→TC E n ⟨gotoQ l (LoopT n X inv J I μ i) (den P n.r X.Q s),X.w0,X.A0⟩ [] B (inv i) (J i))
  (h1:(∀ i,I i→∀ fr2 A2,Sub (inv i) fr2→∀ {G},Fit A2 (J i) G→TC E n ⟨gotoQ l (GoL n X inv J I) (den P n.r X.Q s),X.w0,X.A0⟩ [] (.seq (.label l) B) fr2 A2)→TC E n ⟨gotoQ l (GoL n X inv J I) (den P n.r X.Q s),X.w0,X.A0⟩ [] c fr A)
  (hl:findLabel c l = some (.seq .skip B):=by rfl):TC E n X s (.scope c) fr A:=by
 have hm:∀ i,∀ e a w,gotoQ l (LoopT n X inv J I μ i) (den P n.r X.Q s) e a w→gotoQ l (GoL n X inv J I) (den P n.r X.Q s) e a w:=fun i e a w h=>by
  cases e with
  | goto t=>exact ⟨h.1,by obtain ⟨i',h1,h2,h3,_⟩:=h.2;exact ⟨i',h1,h2,h3⟩⟩
  | _=>exact h
 have h1':=h1 fun i hI fr2 A2 hs G hf=>⟨fun w hw=>⟨fun a ha=>wpIn_seq (wpIn_label (wpIn_mono ((h2 i hI).run w ((⟨hw.sat,hw.mv⟩ : St X A2 w).im (Im.trans hf (Im.drop _ _)) |> fun h=>⟨h.sat,h.mv⟩) |>.run a (ha.sub hs)) (hm i)))⟩⟩
 refine ⟨fun w hw=>⟨fun a ha=>wpIn_scopeG hl (fun j a w=>∃ i,μ i = j∧I i∧Holds n a (inv i)∧St X (J i) w) (wpIn_mono ((h1'.run w ⟨hw.sat,hw.mv⟩).run a ha) ?_) ?_⟩⟩
 ·intro e a w h
  cases e with
  | goto t=>exact ⟨h.1,by obtain ⟨i,h1,h2,h3⟩:=h.2;exact ⟨μ i,i,rfl,h1,h2,h3⟩⟩
  | _=>exact h
 ·rintro j a w ⟨i,rfl,hI,hH,hS⟩
  refine wpIn_seq (wpIn_skip (wpIn_mono (((h2 i hI).run w ⟨hS.sat,hS.mv⟩).run a hH) ?_))
  intro e a w h
  cases e with
  | goto t=>exact ⟨h.1,by obtain ⟨i',h1,h2,h3,h4⟩:=h.2;exact ⟨μ i',h4,i',rfl,h1,h2,h3⟩⟩
  | _=>exact h
theorem gto {ι:Type} {inv:ι→Fr} {J:ι→List Ch} {I:ι→Prop} {μ:ι→Nat} {l:Nat} {Q:Exit→Act→World→Prop} {i:ι} {G:List Ch} (i':ι) (h:I i') (hs:Sub (inv i') fr:=by (repeat (refine Sub.cons rfl (by first | rfl | go_num) ?_));exact Sub.nil) (hf:Fit A (J i') G:=by exact fitA) (hlt:μ i' < μ i:=by first | omega | (dsimp only;omega)) :
  TC E n ⟨gotoQ l (LoopT n X inv J I μ i) Q,X.w0,X.A0⟩ s (.goto l) fr A:=
 ⟨fun w hw=>⟨fun a ha=>wpIn_goto (den_goto ⟨rfl,i',h,ha.sub hs,(⟨hw.sat,hw.mv⟩ : St X A w).im (Im.trans hf (Im.drop _ _)),hlt⟩ s)⟩⟩
theorem scg {l:Nat} {L:Act→World→Prop} (he:∀ Q a w,gotoQ l L Q e a w = Q e a w) (h:TX E n X s e fr A):TX E n ⟨gotoQ l L (den P n.r X.Q s),X.w0,X.A0⟩ [] e fr A:=
 ⟨fun w hw=>⟨fun a ha=>(he _ a w).mpr ((h.run w ⟨hw.sat,hw.mv⟩).run a ha)⟩⟩
end
end Go.Art
namespace Go.Art
open Go Go.Proofs Go.RowKit
def stepL (ys:List Nat) (j n:Nat) (r:List Nat):List Nat:=ys.take j ++ r ++ List.replicate (n + 1 - r.length) 0 ++ ys.drop (j + n + 1)
theorem stepL_facts {ys r:List Nat} {j n:Nat} (hr:r.length ≤ n + 1) (hj:j + n + 1 ≤ ys.length) (hd:Dg ys) (hdr:Dg r) :
  (stepL ys j n r).length = ys.length∧Dg (stepL ys j n r)∧nv (stepL ys j n r) = nv (ys.take j) + 18446744073709551616 ^ j * (nv r + 18446744073709551616 ^ (n + 1) * nv (ys.drop (j + n + 1)))∧nv ((stepL ys j n r).drop j) = nv r + 18446744073709551616 ^ (n + 1) * nv (ys.drop (j + n + 1)):=by
 have e1:nv (r ++ List.replicate (n + 1 - r.length) 0 ++ ys.drop (j + n + 1)) = nv r + 18446744073709551616 ^ (n + 1) * nv (ys.drop (j + n + 1)):=by
  rw [nv_app,nv_app,nv_rep,Nat.mul_zero,Nat.add_zero,List.length_append,List.length_replicate,show r.length + (n + 1 - r.length) = n + 1 by omega]
 have e2:stepL ys j n r = ys.take j ++ (r ++ List.replicate (n + 1 - r.length) 0 ++ ys.drop (j + n + 1)):=by unfold stepL;simp only [List.append_assoc]
 have hl:(ys.take j).length = j:=by rw [List.length_take];omega
 refine ⟨?_,?_,?_,?_⟩
 ·unfold stepL;simp;omega
 ·exact (((hd.take j).app hdr).app (Dg.rep _)).app (hd.drop _)
 ·rw [e2,nv_app,e1,hl]
 ·rw [e2,List.drop_left' hl,e1]
theorem win_facts {ys:List Nat} {j n:Nat} (hj:j + n + 1 ≤ ys.length):nv ys = nv (ys.take j) + 18446744073709551616 ^ j * (nv ((ys.take (j + n + 1)).drop j) + 18446744073709551616 ^ (n + 1) * nv (ys.drop (j + n + 1))):=by
 have h1:=nv_cut ys j
 have h2:=nv_cut (ys.drop j) (n + 1)
 rw [List.drop_drop,List.take_drop,show j + (n + 1) = j + n + 1 by omega] at h2
 rw [h1,h2]
theorem guess_ok {w V u1 u0 t n low vlow:Nat} (hw:w = (u1 * 18446744073709551616 + u0) * 18446744073709551616 ^ n + low) (hlow:low < 18446744073709551616 ^ n) (hV:V = t * 18446744073709551616 ^ n + vlow) (ht:0 < t):w / V ≤ (u1 * 18446744073709551616 + u0) / t:=by
 have hp:0 < 18446744073709551616 ^ n:=Nat.pow_pos (by decide)
 have h1:w / V ≤ w / (t * 18446744073709551616 ^ n):=Nat.div_le_div_left (by omega) (Nat.mul_pos ht hp)
 have h2:w / (t * 18446744073709551616 ^ n) = (u1 * 18446744073709551616 + u0) / t:=by
  rw [Nat.mul_comm t,← Nat.div_div_eq_div_mul,hw,Nat.mul_comm _ (18446744073709551616 ^ n),Nat.mul_add_div hp,Nat.div_eq_of_lt hlow,Nat.add_zero]
 omega
theorem Im.drop' {c:Ch} {A:List Ch}:Im (c :: A) A:=Im.trans (Im.perm (List.perm_append_comm (l₁:=[c]) (l₂:=A))) (Im.drop A [c])
attribute [local irreducible] Fit pt own ro vw mpc lpt vels rels mow lrc dfr
set_option maxHeartbeats 2000000 in
theorem step_tr (o vv:Value) (ys v:List Nat) (j:Nat) (hd:Dg ys) (hv:Dg v) (hvl:2 ≤ v.length) (htop:v.getD (v.length - 1) 0 ≠ 0) (hj:j + v.length + 1 ≤ ys.length) (hyl:ys.length ≤ 1099511627776) (hw:nv ((ys.take (j + v.length + 1)).drop j) < nv v * 18446744073709551616) :
  Tr Tryz.prog 193 [slSub o j (j + v.length + 1),vv] [vw vv (Us v)] [own T64 o (Us ys)] fun u D=>u = Un (nv ((ys.take (j + v.length + 1)).drop j) / nv v)∧D = [own T64 o (Us (stepL ys j v.length (dg (nv ((ys.take (j + v.length + 1)).drop j) % nv v))))]:=by
 have hh:Has [own T64 o (Us ys),vw vv (Us v)] (vw (slSub o j (j + v.length + 1)) (Us ((ys.take (j + v.length + 1)).drop j))):=has_subu (has_own (List.Mem.head _)) (by omega) hj
 have hwd:Dg ((ys.take (j + v.length + 1)).drop j):=hd.sub _ _
 have hwl:((ys.take (j + v.length + 1)).drop j).length = v.length + 1:=by rw [List.length_drop,List.length_take];omega
 obtain ⟨uv,huv⟩ : ∃ uv,uv = slSub o j (j + v.length + 1):=⟨_,rfl⟩
 obtain ⟨win,hwin⟩ : ∃ win,win = (ys.take (j + v.length + 1)).drop j:=⟨_,rfl⟩
 rw [← huv] at hh ⊢
 rw [← hwin] at hh hwd hwl hw ⊢
 -- the digits that the guess is made of
 obtain ⟨u1,eu1⟩ : ∃ u1,win.getD v.length 0 = u1:=⟨_,rfl⟩
 obtain ⟨u0,eu0⟩ : ∃ u0,win.getD ((v.length:Int) - 1).toNat 0 = u0:=⟨_,rfl⟩
 obtain ⟨t,et⟩ : ∃ t,v.getD ((v.length:Int) - 1).toNat 0 = t:=⟨_,rfl⟩
 have hn1:((v.length:Int) - 1).toNat = v.length - 1:=by omega
 have bu1:u1 < 18446744073709551616:=by rw [← eu1];exact hwd.getD _
 have bu0:u0 < 18446744073709551616:=by rw [← eu0];exact hwd.getD _
 have bt:t < 18446744073709551616:=by rw [← et];exact hv.getD _
 have ht0:t ≠ 0:=by rw [← et,hn1];exact htop
 have hV0:0 < nv v:=by
  refine Nat.pos_of_ne_zero fun h=>ht0 ?_
  rw [← et,hn1,List.getD_eq_getElem?_getD,List.getElem?_eq_getElem (by omega)]
  exact nv_zero h _ (List.getElem_mem _)
 have hVb:=nv_lt hv
 have hQb:nv win / nv v < 18446744073709551616:=by rw [Nat.div_lt_iff_lt_mul hV0,Nat.mul_comm];exact hw
 have hG:u1 < t→nv win / nv v ≤ (u1 * 18446744073709551616 + u0) / t:=fun _=>by
  refine guess_ok (n:=v.length - 1) (low:=nv (win.take (v.length - 1))) (vlow:=nv (v.take (v.length - 1))) ?_ (nv_low hwd _) ?_ (by omega)
  ·rw [nv_cut win (v.length - 1),nv_step,nv_step,show v.length - 1 + 1 = v.length by omega,List.drop_eq_nil_of_le (by omega),← hn1,eu0,eu1]
   simp only [nv,Nat.mul_zero,Nat.add_zero]
   rw [Nat.mul_comm (u1 * 18446744073709551616 + u0),Nat.mul_comm u1,Nat.add_comm u0];exact Nat.add_comm _ _
  ·rw [nv_cut v (v.length - 1),nv_step,List.drop_eq_nil_of_le (by omega),← hn1,et]
   simp only [nv,Nat.mul_zero,Nat.add_zero]
   rw [Nat.mul_comm t];exact Nat.add_comm _ _
 have hGb:u1 < t→(u1 * 18446744073709551616 + u0) / t < 18446744073709551616:=fun h=>by
  rw [Nat.div_lt_iff_lt_mul (by omega)]
  have:=Nat.mul_le_mul_right 18446744073709551616 h
  rw [Nat.succ_mul,Nat.mul_comm t] at this
  omega
 have hrl:(dg (nv win % nv v)).length ≤ v.length:=(dg_len _ _).2 (Nat.lt_trans (Nat.mod_lt _ hV0) hVb)
 have hdm:=Nat.div_add_mod (nv win) (nv v)
 obtain ⟨Q,hQ⟩ : ∃ Q,Q = nv win / nv v:=⟨_,rfl⟩
 obtain ⟨r,hr⟩ : ∃ r,r = nv win % nv v:=⟨_,rfl⟩
 rw [← hQ] at hQb hG hdm ⊢
 rw [← hr] at hrl hdm ⊢
 have hrV:r < nv v:=by rw [hr];exact Nat.mod_lt _ hV0
 have hle:∀ g,nv v * g ≤ nv win→g ≤ Q:=fun g h=>by rw [hQ,Nat.le_div_iff_mul_le hV0,Nat.mul_comm];exact h
 clear hQ hr hwin
 refine Tr.enter env _ Tryz.func193 (by kernel_rfl) rfl Tryz.ntmps193 rfl (by repeat (first | exact has00 | refine has01 ?_)) fun w0=>?_
 refine TC.im (B:=[own T64 o (Us ys),vw vv (Us v)]) (Im.perm (List.Perm.swap _ _ _)) ?_
 repeat' first|(refine wo ?_;first|refine oa ?_)|refine sq ?_|refine rg ?_|refine xc ?_|refine nl ?_
 refine TC.scopeG (ι:=Nat × Value) (l:=0) (fun i=>[(0,uv),(1,vv),(5,I v.length),(6,Un i.1),(7,i.2)]) (fun i=>[own T64 i.2 (Us (dg (nv v * i.1))),own T64 o (Us ys),vw vv (Us v)]) (fun i=>Q ≤ i.1∧i.1 < 18446744073709551616∧i.2.oneCell' = true) (fun i=>i.1) ?_ (fun kb=>?_)
 ·rintro ⟨g,p⟩ ⟨h1,h2,h3⟩
  dsimp only at h1 h2 h3 ⊢
  have hpn:nv (dg (nv v * g)) = nv v * g:=nv_dg _
  have hpd:Dg (dg (nv v * g)):=Dg_dg _
  have hpl:(dg (nv v * g)).length ≤ 1099511627776:=Nat.le_trans ((dg_len _ (v.length + 1)).2 (by rw [Nat.pow_succ];exact Nat.mul_lt_mul'' hVb h2)) (by omega)
  have hh2:Has [own T64 p (Us (dg (nv v * g))),own T64 o (Us ys),vw vv (Us v)] (vw uv (Us win)):=hh.mono Im.drop'
  have hCmp:=Cmp_tr p uv (dg (nv v * g)) win hpd hwd
  rw [hpn] at hCmp
  by_cases hgt:nv win < nv v * g
  ·have hc:¬ cmpN (nv v * g) (nv win) < 0∧cmpN (nv v * g) (nv win) ≠ 0:=⟨by rw [cmpN_lt];omega,by rw [Ne,cmpN_eq];omega⟩
   have hg1:1 ≤ g:=by
    rcases Nat.eq_zero_or_pos g with h | h
    ·rw [h,Nat.mul_zero] at hgt;omega
    ·exact h
   have hQg:Q ≤ g - 1:=by
    rcases Nat.lt_or_ge Q g with h | h
    ·omega
    ·obtain rfl:Q = g:=by omega
     omega
   have hsb:nv v * g - nv v = nv v * (g - 1):=by rw [Nat.mul_sub,Nat.mul_one]
   have hSub:=NSub_tr p vv (dg (nv v * g)) v hpd hv hpl (by omega) (by rw [hpn];exact Nat.le_mul_of_pos_right _ hg1)
   rw [hpn,hsb] at hSub
   clear hgt hsb
   repeat' first|(refine gca ?_;first|(refine ca hCmp ?_;rintro _ _ ⟨rfl,rfl⟩;refine TO.im (B:=[own T64 p (Us (dg (nv v * g))),own T64 o (Us ys),vw vv (Us v)]) (Im.refl _) ?_)|(refine ca hSub ?_;rintro _ _ ⟨p2,rfl,hp2,rfl⟩))|(refine wo ?_;first|(refine ao ?_;first|(refine nao ?_;first|refine nsb ?_)|(refine naou ?_;first|refine nsb ?_)|refine oa ?_)|refine oa ?_)|(refine gc ?_;first|(refine ci (fun hB=>?_) (fun hB=>?_) <;> try (exfalso;omega)))|refine sq ?_|refine rg ?_|refine xc ?_|refine nl ?_
   exact gto (g - 1,p2) ⟨hQg,by omega,hp2⟩
  ·obtain rfl:g = Q:=Nat.le_antisymm (hle g (by omega)) h1
   have hc:¬ 0 < cmpN (nv v * g) (nv win):=by unfold cmpN;split <;> (try split) <;> omega
   have hsb:nv win - nv v * g = r:=by omega
   have hSub:=NSub_tr uv p win (dg (nv v * g)) hwd hpd (by omega) hpl (by rw [hpn];omega)
   rw [hpn,hsb] at hSub
   obtain ⟨y1,hy1⟩ : ∃ y1,y1 = ys.take j ++ List.replicate (v.length + 1) 0 ++ ys.drop (j + v.length + 1):=⟨_,rfl⟩
   have hl1:(ys.take j).length = j:=by rw [List.length_take];omega
   have hy1l:y1.length = ys.length:=by rw [hy1];simp;omega
   have eq1:(Us ys).take j ++ List.replicate (j + v.length + 1 - j) (Un 0) ++ (Us ys).drop (j + v.length + 1) = Us y1:=by
    rw [Us_rep,Us_take,Us_drop,← Us_app,← Us_app,hy1,show j + v.length + 1 - j = v.length + 1 by omega]
   have eq2:(Us y1).take j ++ Us (dg r) ++ (Us y1).drop (j + (Us (dg r)).length) = Us (stepL ys j v.length (dg r)):=by
    rw [Us_len,Us_take,Us_drop,← Us_app,← Us_app,stepL,hy1]
    simp only [List.append_assoc]
    rw [List.take_left' hl1,← List.drop_drop,List.drop_left' hl1,List.drop_append_of_le_length (by rw [List.length_replicate];omega),List.drop_replicate]
   have hcl:j + (Us (dg r)).length ≤ j + v.length + 1:=by rw [Us_len];omega
   have hyu:j + v.length + 1 ≤ (Us ys).length:=by rw [Us_len];omega
   have hyu1:j + v.length + 1 ≤ (Us y1).length:=by rw [Us_len];omega
   clear hsb hgt hdm
   repeat' first|(refine gca ?_;first|(refine ca hCmp ?_;rintro _ _ ⟨rfl,rfl⟩;refine TO.im (B:=[own T64 p (Us (dg (nv v * g))),own T64 o (Us ys),vw vv (Us v)]) (Im.refl _) ?_)|(refine ca hSub ?_ (hs:=Fit.nil) (hp:=has1 hh2 (has1 (has_own (List.Mem.head _)) has0));rintro _ _ ⟨p2,rfl,hp2,rfl⟩))|(refine clr (a:=o) (lo:=j) (hi:=j + v.length + 1) (xs:=Us ys) (z:=Un 0) ?_ (by rw [← huv];rfl) (hlo:=by omega) (hhi:=hyu);rw [eq1])|(refine cps (a:=o) (lo:=j) (hi:=j + v.length + 1) (xs:=Us y1) (cs:=Us (dg r)) ?_ (by rw [← huv];rfl) (hlo:=by omega) (hhi:=hyu1) (hcs:=hcl) (h1:=Us_one _);rw [eq2])|(refine wo ?_;first|(refine ao ?_;first|refine oa ?_)|refine oa ?_)|(refine gc ?_;first|(refine ci (fun hB=>?_) (fun hB=>?_) <;> try (exfalso;omega)))|refine sq ?_|refine rg ?_|refine xc ?_|refine nl ?_|refine sk ?_|refine rt ?_
   exact scg (fun _ _ _=>rfl) (r1 ⟨rfl,rfl⟩)
 ·repeat' first|refine sq_cutX (a:=.seq (.region 3 _ _) _) (ι:=Nat) (fun g=>Q ≤ g∧g < 18446744073709551616) (fun g=>[(0,uv),(1,vv),(5,I v.length),(6,Un g)]) (fun _=>[own T64 o (Us ys),vw vv (Us v)]) ?_ (fun kc=>?_)|(refine wo ?_;first|refine oa ?_|refine lnm ?_)|refine sq ?_|refine rg ?_|refine xc ?_|refine nl ?_
  ·rintro g ⟨h1,h2⟩
   repeat' first|(refine gca ?_;first|(refine ca (NGrow_tr vv v g hv h2 (by omega)) ?_;rintro p _ ⟨hp,rfl⟩))|exact kb (g,p) ⟨h1,h2,hp⟩ _ _ (by (repeat (refine Sub.cons rfl (by first | rfl | go_num) ?_));exact Sub.nil) fitA|(refine wo ?_;first|refine oa ?_)|refine sq ?_|refine rg ?_|refine xc ?_|refine nl ?_
  ·repeat' first|refine rs (id:=4) (fun w=>Sl w uv (Us win)∧Sl w vv (Us v)) ?_ (fun w hw=>⟨has_sl (A:=[own T64 o (Us ys),vw vv (Us v)]) hw hh,vw_sl (hw.h (vw vv (Us v)) memA)⟩)|exact kc 18446744073709551615 ⟨by omega,by decide⟩ _ _ (by (repeat (refine Sub.cons rfl (by first | rfl | go_num) ?_));exact Sub.nil) fitA|(refine gc ?_;first|(refine ci (fun hB=>?_) (fun hB=>?_) <;> try (exfalso;omega)))|refine xc ?_|refine sk ?_|refine rq ?_|refine nq ?_|(refine wq ?_;first|(refine qao ?_;first|refine qaw ?_|refine qa ?_)|refine qlu ?_|refine qa ?_|refine qixmn ?_|refine qixm ?_)
   have hlt:u1 < t:=by omega
   refine tka 0 ?_
   refine tka 1 ?_
   refine tk 2 (v:=.pointer (some (addrAt uv v.length))) (fun w h=>R_idx (E:=env) (i:=(v.length:Int)) rfl rfl rfl rfl h.1 ⟨Int.natCast_nonneg _,by rw [Us_len];omega⟩) ?_
   refine tke 3 (v:=Un u1) (by rw [eu1]) (fun w h=>R_load (E:=env) (v:=Un (win.getD v.length 0)) rfl rfl rfl (h.1.cell (Us_get win v.length (by omega)))) ?_
   refine tka 4 ?_
   refine tka 5 ?_
   refine tkw 6 ((v.length:Int) - 1) ?_
   refine tk 7 (v:=.pointer (some (addrAt uv ((v.length:Int) - 1).toNat))) (fun w h=>R_idx (E:=env) (i:=(v.length:Int) - 1) rfl rfl rfl rfl h.1 ⟨by omega,by rw [Us_len];omega⟩) ?_
   refine tke 8 (v:=Un u0) (by rw [eu0]) (fun w h=>R_load (E:=env) (v:=Un (win.getD ((v.length:Int) - 1).toNat 0)) rfl rfl rfl (h.1.cell (Us_get win ((v.length:Int) - 1).toNat (by omega)))) ?_
   refine tka 9 ?_
   refine tka 10 ?_
   refine tkw 11 ((v.length:Int) - 1) ?_
   refine tk 12 (v:=.pointer (some (addrAt vv ((v.length:Int) - 1).toNat))) (fun w h=>R_idx (E:=env) (i:=(v.length:Int) - 1) rfl rfl rfl rfl h.2 ⟨by omega,by rw [Us_len];omega⟩) ?_
   refine tke 13 (v:=Un t) (by rw [et]) (fun w h=>R_load (E:=env) (v:=Un (v.getD ((v.length:Int) - 1).toNat 0)) rfl rfl rfl (h.2.cell (Us_get v ((v.length:Int) - 1).toNat (by omega)))) ?_
   refine t1 14 ?_
   refine ca (Div64_tr u1 u0 t bu0 bt hlt) ?_
   rintro _ _ ⟨rfl,rfl⟩
   refine nl ?_
   refine te (fun w hw=>⟨has_sl (A:=[own T64 o (Us ys),vw vv (Us v)]) hw hh,vw_sl (hw.h (vw vv (Us v)) memA)⟩) ?_
   refine tka 15 ?_
   refine tka 16 ?_
   refine tka 17 ?_
   refine tka 18 ?_
   refine t0 ?_
   refine xc ?_
   exact kc ((u1 * 18446744073709551616 + u0) / t) ⟨hG hlt,hGb hlt⟩ _ _ (by (repeat (refine Sub.cons rfl (by first | rfl | go_num) ?_));exact Sub.nil) fitA
end Go.Art
namespace Go.Art
open Go Go.Proofs Go.RowKit
section
variable {P:Program}
theorem run_room_z (w:World) (t tn ty e:TypeId) (i:TypeInfo) (z:Value) (k kn:IntKind) (ht:P.underlying t = some (.slice e)) (htn:P.underlying tn = some (.int kn)) (hi:P.info? e = some i) (hz:i.zero = some z) (hs:i.size = 1) (hz1:z.cells = #[z]) (ho:z.oneCell' = true)
  (g o sLen sCap:Nat) (cur:Array Value) (hg:w.heap[g]? = some (.cells cur e (0,0))) (n:Nat) (h0:0 < n) (h63:(n:Int) ≤ 9223372036854775807) (h48:n * i.bytes ≤ 281474976710656) (hroom:sLen + n ≤ sCap) (hfit:o + sLen + n ≤ cur.size) :
  (Builtin.append_ #[t,tn] ty #[.slice (some ⟨g,o,none⟩) sLen sCap,.int k n]).run P w =
   .ok (.slice (some ⟨g,o,none⟩) (sLen + n) sCap) (w.setRow g (cur.toList.take (o + sLen) ++ List.replicate n z ++ cur.toList.drop (o + sLen + n)).toArray):=by
 have hw:IntKind.i64.wrap (n:Int) = n:=by rw [IntKind.wrap_i64];omega
 have h48i:¬ (281474976710656 < (n:Int) * (i.bytes:Int)):=by rw [← Int.natCast_mul];omega
 have hneg:¬ ((n:Int) < 0):=by omega
 have hns:n ≠ 0:=by omega
 have hst:=run_storeCells_at P g (o + sLen) e (List.replicate n z) 0 cur w hg (by simpa using hfit) (fun c hc=>by rw [List.eq_of_mem_replicate hc];exact ho)
 simp only [Nat.add_zero,List.length_replicate] at hst
 simp [Builtin.append_,run_underlying ht,run_underlying htn,sizeOf,typeInfo,zeroValue,hi,hz,hz1,hs,zeroCells1,asInt,asIntOf,hw,hneg,hns,h48i,hroom,Addr.add_lit,hst]
theorem run_same_z (w:World) (t tn ty e:TypeId) (i:TypeInfo) (k kn:IntKind) (ht:P.underlying t = some (.slice e)) (htn:P.underlying tn = some (.int kn)) (hi:P.info? e = some i) (b:Option Addr) (sLen sCap:Nat) (hle:sLen ≤ sCap) :
  (Builtin.append_ #[t,tn] ty #[.slice b sLen sCap,.int k 0]).run P w = .ok (.slice b sLen sCap) w:=by
 have hw:IntKind.i64.wrap 0 = 0:=by rw [IntKind.wrap_i64];omega
 cases b <;> simp [Builtin.append_,run_underlying ht,run_underlying htn,sizeOf,typeInfo,hi,asInt,asIntOf,hw,hle,storeCells]
theorem run_grow_z (w:World) (t tn ty e:TypeId) (i:TypeInfo) (z:Value) (k kn:IntKind) (ht:P.underlying t = some (.slice e)) (htn:P.underlying tn = some (.int kn)) (hi:P.info? e = some i) (hz:i.zero = some z) (hs:i.size = 1) (hz1:z.cells = #[z])
  (b:Addr) (sLen sCap:Nat) (olds:List Value) (hlo:olds.length = sLen * i.size) (holds:∀ j v,olds[j]? = some v→w.cell? (b.add j) = some v) (n:Nat) (h0:0 < n) (h63:((sLen + n:Nat):Int) ≤ 9223372036854775807) (h48:n * i.bytes ≤ 281474976710656) (hg:sCap < sLen + n) (hfit:Builtin.nextslicecap (sLen + n) sCap * i.bytes ≤ 281474976710656) :
  (Builtin.append_ #[t,tn] ty #[.slice (some b) sLen sCap,.int k n]).run P w =
   .ok (.slice (some ⟨w.heap.size,0,none⟩) (sLen + n) (grownCap w (sLen + n) sCap e)) (w.drew.alloc (.cells (olds.toArray ++ (List.replicate n z).toArray ++ (List.replicate (grownCap w (sLen + n) sCap e - (sLen + n)) z).toArray) e)):=by
 have hn:¬ (sLen + n ≤ sCap):=by omega
 have hw:IntKind.i64.wrap (n:Int) = n:=by rw [IntKind.wrap_i64];omega
 have h48i:¬ (281474976710656 < (n:Int) * (i.bytes:Int)):=by rw [← Int.natCast_mul];omega
 have hneg:¬ ((n:Int) < 0):=by omega
 have hns:n ≠ 0:=by omega
 have h63':¬ (9223372036854775807 < ((sLen:Int) + (n:Int))):=by omega
 have h48':¬ (281474976710656 < Builtin.nextslicecap (sLen + n) sCap * i.bytes):=by omega
 have hfo:=run_firstCells_some (P:=P) w.drew i.size sLen b sLen sCap olds hlo (by simpa using holds)
 rw [hs] at hfo
 simp [Builtin.append_,run_underlying ht,run_underlying htn,sizeOf,typeInfo,zeroValue,hi,hz,hz1,hs,zeroCells1,asInt,asIntOf,hw,hneg,hns,h48i,hn,h63',h48',Question.forced,hfo,newRow,grownCap]
variable {E:Env P} {n:Sh} {X:Cx} {s:List K} {fr:Fr} {A A':List Ch} {ops:Array Oper} {rest:List Oper} {d:Nat} {ty t t':TypeId} {pos:String} {after:Array Edge} {x y:Operand} {w:World} {v u z:Value} {by_:Nat} {xs:List Value} {e:TypeId} {k1 kn:IntKind} {m:Int}
theorem run_appendZ (t0:TypeId) (w:World) (ht:lk E.und t = some (.slice e)) (htn:lk E.und t' = some (.int kn)) (he:lk E.inf e = some (z,1,by_)) (hz:z.cells = #[z]) (hz1:z.oneCell' = true) (hown:OwnO w e v xs) {k:Nat} (hl:xs.length + k ≤ 17592186044416) (hb:by_ ≤ 8) :
  ∃ v' w',(Builtin.append_ #[t,t'] t0 #[v,.int k1 k]).run P w = .ok v' w'∧OwnO w' e v' (xs ++ List.replicate k z)∧Upd w w' v.ownBlock.toList∧∀ b,v'.ownBlock = some b→v.ownBlock = some b∨w.heap.size ≤ b:=by
 obtain ⟨inf,hi,hiz,his,hib⟩:=E.info he
 have hk8:k * inf.bytes ≤ 281474976710656:=by rw [hib];have:=Nat.mul_le_mul (show k ≤ 17592186044416 by omega) hb;omega
 have hl8:(xs.length + k) * by_ ≤ 140737488355328:=by have:=Nat.mul_le_mul hl hb;omega
 rcases Nat.eq_zero_or_pos k with rfl | hpos
 ·rw [List.replicate_zero,List.append_nil]
  obtain ⟨a,c,rfl,hc,_⟩:=hown.sl
  exact ⟨_,w,run_same_z w t t' t0 e inf k1 kn (E.un ht) (E.un htn) hi a xs.length c hc,hown,Upd.refl _ _,fun _ h=>.inl h⟩
 ·have hupd:∀ (o:Obj) (S:List Nat),Upd w (w.drew.alloc o) S:=fun o S=>((Upd.drew w).trans (Upd.alloc w.drew o)).weak (by simp)
  rcases hown with ⟨rfl,rfl⟩ | ⟨g,o,cap,cur,rfl,hg,h2,h3,h4,h5⟩
  ·have hr:=Lib.run_append_nil_zeros (P:=P) w t t' t0 e inf z k1 kn (E.un ht) (E.un htn) hi hiz k hpos (by rw [his];decide) (by omega) hk8
   have hge:=grownCap_ge w k 0 e
   refine ⟨_,_,hr,.inr ⟨w.heap.size,0,grownCap w k 0 e,_,by simp,heap_alloc_new w.drew _,by simpa using hge,grownCap_le_maxLen w k 0 e (by unfold maxLen;omega),?_,?_⟩,hupd _ _,fun b hb=>.inr (by cases hb;exact Nat.le_refl _)⟩
   ·rw [hz,zeroCells1,zeroCells1];simp;omega
   ·rw [hz,zeroCells1,zeroCells1];simp
  ·by_cases hroom:xs.length + k ≤ cap
   ·have hr:=run_room_z w t t' t0 e inf z k1 kn (E.un ht) (E.un htn) hi hiz his hz hz1 g o xs.length cap cur hg k hpos (by omega) hk8 hroom (by omega)
    refine ⟨_,_,hr,.inr ⟨g,o,cap,_,by simp,setRow_heap w g cur _ e _ hg,by simpa using hroom,h3,?_,?_⟩,Upd.setRow w g _,fun _ h=>.inl h⟩
    ·simp only [List.size_toArray,List.length_append,List.length_take,List.length_drop,Array.length_toList,List.length_replicate];omega
    ·have hcl:cur.toList.length = cur.size:=Array.length_toList
     rw [List.append_assoc,List.drop_append_of_le_length (by rw [List.length_take,hcl];omega),show List.drop o (List.take (o + xs.length) cur.toList) = List.take xs.length (List.drop o cur.toList) by rw [List.drop_take,Nat.add_sub_cancel_left]]
     rw [h5,← List.append_assoc]
     exact List.take_left
   ·have hsl:Sl w (.slice (some ⟨g,o,none⟩) xs.length cap) xs:=OwnO.sl (.inr ⟨g,o,cap,cur,rfl,hg,h2,h3,h4,h5⟩)
    have hr:=run_grow_z w t t' t0 e inf z k1 kn (E.un ht) (E.un htn) hi hiz his hz ⟨g,o,none⟩ xs.length cap xs (by rw [his,Nat.mul_one]) (fun j c hj=>hsl.cell hj) k hpos (by omega) hk8 (by omega) (by subst hib;exact growslice_fits (by omega) hl8)
    have hge:=grownCap_ge w (xs.length + k) cap e
    refine ⟨_,_,hr,.inr ⟨w.heap.size,0,grownCap w (xs.length + k) cap e,_,by simp,heap_alloc_new w.drew _,by simpa using hge,grownCap_le_maxLen w _ _ e (by unfold maxLen;omega),?_,?_⟩,hupd _ _,fun b hb=>.inr (by cases hb;exact Nat.le_refl _)⟩
    ·simp;omega
    ·simp only [Array.toList_append,List.append_assoc,List.drop_zero]
     rw [← List.append_assoc]
     exact List.take_left
theorem apzo {k:Nat} (kk:∀ v',TO E n X s ops rest ((d,v') :: fr) (own e v' (xs ++ List.replicate k z) :: A')) (hx:ev fr x = some v:=by rfl) (hy:ev fr y = some (.int k1 (k:Int)):=by rfl) (hm:Tk (own e v xs) A A':=by exact tkA) (hl:xs.length + k ≤ 17592186044416:=by omega)
  (ht:lk E.und t = some (.slice e):=by rfl) (htn:lk E.und t' = some (.int kn):=by rfl) (he:lk E.inf e = some (z,1,by_):=by rfl) (hz:z.cells = #[z]:=by rfl) (hz1:z.oneCell' = true:=by rfl) (hb:by_ ≤ 8:=by decide) (hd:Nat.blt d n.n = true:=by rfl) :
  TO E n X s ops (⟨some d,.call ⟨.builtin .append,#[x,y],#[t,t']⟩,ty,pos,after,none⟩ :: rest) fr A:=⟨fun w hw=>by
 have h2:=hw.im hm
 have h3:OwnO w e v xs:=h2.mem (List.Mem.head _)
 obtain ⟨v',w',hr,hO,hU,hW⟩:=run_appendZ (P:=P) (k1:=k1) ty w ht htn he hz hz1 h3 hl hb
 refine SO_v hd (w':=w') (v:=v') ⟨fun a ha' _ _ _ _=>?_⟩ ((kk v').run w' (h2.set hU (fun b hb=>.inl (by show v.ownBlock = some b;simpa using hb)) hO ?_ (fun _ h=>h)))
 ·simp only [execOp,resolve]
  simp [ha'.ev hx,ha'.ev hy,invoke,builtin,hr]
 ·rintro b (hb' | hb' | hb')
  ·exact hW b hb'
  ·exact hb'.elim
  ·exact hb'.elim⟩
end
end Go.Art
namespace Go.Art
open Go Go.Proofs Go.RowKit
theorem dg_len_pos {n:Nat} (h:n ≠ 0):1 ≤ (dg n).length:=by
 cases h1:dg n with
 | nil=>exact absurd (dg_nil.1 h1) h
 | cons=>simp
theorem dg_mono {m n:Nat} (h:m ≤ n):(dg m).length ≤ (dg n).length:=(dg_len _ _).2 (Nat.lt_of_le_of_lt h ((dg_len n _).1 (Nat.le_refl _)))
theorem top_bounds {n:Nat} (h:n ≠ 0):(dg n).getD ((dg n).length - 1) 0 * 18446744073709551616 ^ ((dg n).length - 1) ≤ n∧n < ((dg n).getD ((dg n).length - 1) 0 + 1) * 18446744073709551616 ^ ((dg n).length - 1):=by
 have h0:=dg_len_pos h
 have h1:=nv_cut (dg n) ((dg n).length - 1)
 rw [nv_step,show (dg n).length - 1 + 1 = (dg n).length by omega,List.drop_eq_nil_of_le (Nat.le_refl _),nv_dg] at h1
 simp only [nv,Nat.mul_zero,Nat.add_zero] at h1
 have h2:=nv_low (Dg_dg n) ((dg n).length - 1)
 rw [Nat.mul_comm] at h1
 rw [Nat.add_mul,Nat.one_mul]
 omega
theorem div_case {N p V s a b:Nat} (hV:V = b * 2 ^ s) (hU:p + N * V = a * 2 ^ s) (hp:p < V):N = a / b∧p / 2 ^ s = a % b:=by
 have hg:0 < 2 ^ s:=Nat.pow_pos (by decide)
 have hdu:=div_up (a:=a) (y:=b) (p:=2 ^ s) hg
 rw [← hU,← hV] at hdu
 have h1:(p + N * V) / V = N:=by rw [Nat.add_mul_div_right _ _ (by omega),Nat.div_eq_of_lt hp,Nat.zero_add]
 have h2:(p + N * V) % V = p:=by rw [Nat.add_mul_mod_self_right,Nat.mod_eq_of_lt hp]
 rw [h1,h2] at hdu
 exact ⟨hdu.1,by rw [hdu.2];exact Nat.mul_div_cancel _ hg⟩
attribute [local irreducible] Fit pt own ro vw mpc lpt vels rels mow lrc dfr
abbrev DivR (na nb:Nat) (u:Value) (D:List Ch):Prop:=∃ q r,u = tup3 q r (I 0)∧q.oneCell' = true∧r.oneCell' = true∧D = [own T64 q (Us (dg (na / nb))),own T64 r (Us (dg (na % nb)))]
theorem DivLt_tr (va vb:Value) (a b:List Nat) (ha:Dg a) (hb:Dg b) (hla:a.length ≤ 549755813888) (hlb:b.length ≤ 549755813888) (hlt:nv a < nv b):Tr Tryz.prog 159 [va,vb] [vw va (Us a),vw vb (Us b)] [] (DivR (nv a) (nv b)):=by
 have hb0:(dg (nv b)).length ≠ 0:=by have:=dg_len_pos (n:=nv b) (by omega);omega
 have hc:cmpN (nv (dg (nv a))) (nv (dg (nv b))) < 0:=by rw [nv_dg,nv_dg,cmpN_lt];exact hlt
 have e1:nv a / nv b = 0:=Nat.div_eq_of_lt hlt
 have e2:nv a % nv b = nv a:=Nat.mod_eq_of_lt hlt
 unfold DivR
 rw [e1,e2,dg_zero]
 refine Tr.enter env _ Tryz.func159 (by kernel_rfl) rfl Tryz.ntmps159 rfl (by repeat (first | exact has00 | refine has01 ?_)) fun w0=>?_
 repeat' first|(refine gca ?_;first|(refine ca (Trim_tr va a ha (by omega)) ?_;rintro u1 _ ⟨hu1,rfl⟩)|(refine ca (Trim_tr vb b hb (by omega)) ?_;rintro u2 _ ⟨hu2,rfl⟩)|(refine ca (Cmp_tr u1 u2 _ _ (Dg_dg (nv a)) (Dg_dg (nv b))) ?_;rintro _ _ ⟨rfl,rfl⟩))|(refine wo ?_;first|(refine ao ?_;first|refine oa ?_)|refine oa ?_|refine lnm ?_)|(refine gc ?_;first|(refine ci (fun hB=>?_) (fun hB=>?_) <;> try (exfalso;omega)))|refine sq ?_|refine rg ?_|refine xc ?_|refine nl ?_|refine bk ?_|refine rt ?_
 refine TX.im (own_nil T64 _) ?_
 exact r3 ⟨_,_,rfl,rfl,hu1,rfl⟩
theorem DivOne_tr (va vb:Value) (a b:List Nat) (ha:Dg a) (hb:Dg b) (hla:a.length ≤ 549755813888) (hlb:b.length ≤ 549755813888) (hge:nv b ≤ nv a) (hb0:nv b ≠ 0) (hb1:nv b < 18446744073709551616):Tr Tryz.prog 159 [va,vb] [vw va (Us a),vw vb (Us b)] [] (DivR (nv a) (nv b)):=by
 have hc:¬ cmpN (nv (dg (nv a))) (nv (dg (nv b))) < 0:=by rw [nv_dg,nv_dg,cmpN_lt];omega
 have e1:dg (nv b) = [nv b]:=dg_one hb1 hb0
 have e2:(dg (nv b)).length = 1:=by rw [e1];rfl
 have e3:(dg (nv b)).getD 0 0 = nv b:=by rw [e1];rfl
 have hml:nv a % nv b < 18446744073709551616:=Nat.lt_trans (Nat.mod_lt _ (by omega)) hb1
 have hpl:=dg_len_le ha
 have hP:=fun u1=>Part_tr u1 (dg (nv a)) (nv b) (Dg_dg _) hb1 hb0 (by omega)
 unfold DivR
 simp only [nv_dg] at hP
 obtain ⟨rm,hrm⟩ : ∃ rm,rm = nv a % nv b:=⟨_,rfl⟩
 rw [← hrm] at hml ⊢
 simp only [← hrm] at hP
 refine Tr.enter env _ Tryz.func159 (by kernel_rfl) rfl Tryz.ntmps159 rfl (by repeat (first | exact has00 | refine has01 ?_)) fun w0=>?_
 repeat' first|(refine gca ?_;first|(refine ca (Trim_tr va a ha (by omega)) ?_;rintro u1 _ ⟨hu1,rfl⟩)|(refine ca (Trim_tr vb b hb (by omega)) ?_;rintro u2 _ ⟨hu2,rfl⟩)|(refine ca (Cmp_tr u1 u2 _ _ (Dg_dg (nv a)) (Dg_dg (nv b))) ?_;rintro _ _ ⟨rfl,rfl⟩)|(refine ca (hP u1) ?_;rintro _ _ ⟨q,rfl,hq,rfl⟩)|(refine ca (Of_tr rm hml) ?_;rintro r _ ⟨hr,rfl⟩))|refine lue e3 ?_|(refine wo ?_;first|(refine ao ?_;first|refine oa ?_)|refine oa ?_|refine lnm ?_|refine ixm ?_)|(refine gc ?_;first|(refine ci (fun hB=>?_) (fun hB=>?_) <;> try (exfalso;omega)))|refine sq ?_|refine rg ?_|refine xc ?_|refine nl ?_|refine bk ?_|refine rt ?_
 exact r3 ⟨_,_,rfl,hq,hr,rfl⟩
set_option maxHeartbeats 1000000 in
theorem DivMain_tr (va vb:Value) (a b:List Nat) (ha:Dg a) (hb:Dg b) (hla:a.length ≤ 549755813888) (hlb:b.length ≤ 549755813888) (hge:nv b ≤ nv a) (hb1:18446744073709551616 ≤ nv b):Tr Tryz.prog 159 [va,vb] [vw va (Us a),vw vb (Us b)] [] (DivR (nv a) (nv b)):=by
 have hc:¬ cmpN (nv (dg (nv a))) (nv (dg (nv b))) < 0:=by rw [nv_dg,nv_dg,cmpN_lt];omega
 have hb0:nv b ≠ 0:=by omega
 have hal:=dg_len_le ha
 have hbl:=dg_len_le hb
 have hba:=dg_mono hge
 obtain ⟨na,hna⟩ : ∃ na,na = nv a:=⟨_,rfl⟩
 obtain ⟨nb,hnb⟩ : ∃ nb,nb = nv b:=⟨_,rfl⟩
 have hTa:=fun h=>Trim_tr va a ha h
 have hTb:=fun h=>Trim_tr vb b hb h
 rw [← hna] at hge hal hba hTa hc ⊢
 rw [← hnb] at hge hb1 hb0 hbl hba hTb hc ⊢
 obtain ⟨x,hx⟩ : ∃ x,x = dg na:=⟨_,rfl⟩
 obtain ⟨y,hy⟩ : ∃ y,y = dg nb:=⟨_,rfl⟩
 have hxd:Dg x:=by rw [hx];exact Dg_dg _
 have hyd:Dg y:=by rw [hy];exact Dg_dg _
 have hy2:2 ≤ y.length:=by
  rcases Nat.lt_or_ge y.length 2 with h | h
  ·have:=(dg_len nb 1).1 (by rw [← hy];omega)
   omega
  ·exact h
 have hty:=Tm.top (Tm_dg nb) (by rw [← hy];omega)
 have htb:=top_bounds hb0
 have hnaL:=(dg_len na x.length).1 (by rw [hx];exact Nat.le_refl _)
 have hxl0:1 ≤ x.length:=by rw [hx];exact dg_len_pos (by omega)
 rw [← hx] at hal hba hTa hc
 rw [← hy] at hbl hba hTb hc hty htb
 have htd:y.getD (y.length - 1) 0 < 18446744073709551616:=hyd.getD _
 have hge2:((y.length:Int) - 1).toNat = y.length - 1:=by omega
 obtain ⟨top,htop⟩ : ∃ top,y.getD ((y.length:Int) - 1).toNat 0 = top:=⟨_,rfl⟩
 have htop2:=htop
 rw [hge2] at htop2
 rw [htop2] at hty htb htd
 obtain ⟨s,hs,hse,hV1,hV2⟩:=lz_ex top htd hty
 have hLZ:=LZ64_tr top htd
 rw [hse] at hLZ
 have hg:0 < 2 ^ s:=Nat.pow_pos (by decide)
 -- the divisor and the dividend,moved
 obtain ⟨V,hV⟩ : ∃ V,V = nb * 2 ^ s:=⟨_,rfl⟩
 obtain ⟨U,hU⟩ : ∃ U,U = na * 2 ^ s:=⟨_,rfl⟩
 have hUpV:=fun v1=>NUp_tr v1 nb s hs hb0 (by rw [← hy];omega)
 have hUpU:=fun v1=>NUp_tr v1 na s hs (by omega) (by rw [← hx];omega)
 rw [← hV] at hUpV
 rw [← hU] at hUpU
 simp only [← hy] at hUpV
 simp only [← hx] at hUpU
 have hVlow:9223372036854775808 * 18446744073709551616 ^ (y.length - 1) ≤ V:=by
  rw [hV]
  refine Nat.le_trans (Nat.mul_le_mul_right _ hV1) ?_
  rw [Nat.mul_right_comm]
  exact Nat.mul_le_mul_right _ htb.1
 have hVhigh:V < 18446744073709551616 ^ y.length:=by
  have h1:(top + 1) * 2 ^ s ≤ 18446744073709551616:=by
   have hsp:=pow_split (s:=s) (by omega)
   rw [← hsp] at hV2 ⊢
   have:=Nat.lt_of_mul_lt_mul_right hV2
   exact Nat.mul_le_mul_right _ this
  have h2:nb * 2 ^ s < (top + 1) * 18446744073709551616 ^ (y.length - 1) * 2 ^ s:=Nat.mul_lt_mul_of_pos_right htb.2 hg
  rw [hV]
  refine Nat.lt_of_lt_of_le h2 ?_
  rw [Nat.mul_right_comm]
  refine Nat.le_trans (Nat.mul_le_mul_right _ h1) ?_
  rw [Nat.mul_comm,← Nat.pow_succ]
  exact Nat.pow_le_pow_right (by decide) (by omega)
 have hs63:2 ^ s ≤ 9223372036854775808:=Nat.pow_le_pow_right (n:=2) (by decide) (show s ≤ 63 from hs)
 obtain ⟨v,hv⟩ : ∃ v,v = dg V:=⟨_,rfl⟩
 have hvn:nv v = V:=by rw [hv,nv_dg]
 have hvd:Dg v:=by rw [hv];exact Dg_dg _
 have hvl:v.length = y.length:=by
  refine Nat.le_antisymm ?_ ?_
  ·rw [hv];exact (dg_len _ _).2 hVhigh
  ·rcases Nat.lt_or_ge v.length y.length with h | h
   ·have h1:=(dg_len V (y.length - 1)).1 (by rw [← hv];omega)
    have h2:18446744073709551616 ^ (y.length - 1) ≤ 9223372036854775808 * 18446744073709551616 ^ (y.length - 1):=Nat.le_mul_of_pos_left _ (by decide)
    omega
   ·exact h
 have hvt:v.getD (v.length - 1) 0 ≠ 0:=by rw [hv];exact (Tm_dg V).top (by rw [← hv];omega)
 have hUhigh:U < 18446744073709551616 ^ x.length * 9223372036854775808:=by
  rw [hU];exact Nat.lt_of_lt_of_le (Nat.mul_lt_mul_of_pos_right hnaL hg) (Nat.mul_le_mul_left _ hs63)
 have hUl:(dg U).length ≤ x.length + 1:=(dg_len _ _).2 (by
  rw [Nat.pow_succ];exact Nat.lt_of_lt_of_le hUhigh (Nat.mul_le_mul_left _ (by decide)))
 obtain ⟨k,hk⟩ : ∃ k:Nat,(x.length:Int) + 1 - ((dg U).length:Int) = k:=⟨x.length + 1 - (dg U).length,by omega⟩
 obtain ⟨p,hp⟩ : ∃ p:Nat,(x.length:Int) - (y.length:Int) + 1 = p:=⟨x.length - y.length + 1,by omega⟩
 have hpl:p + y.length = x.length + 1:=by omega
 obtain ⟨us,hus⟩ : ∃ us,us = dg U ++ List.replicate k 0:=⟨_,rfl⟩
 have husn:nv us = U:=by rw [hus,nv_app,nv_rep,nv_dg,Nat.mul_zero,Nat.add_zero]
 have husd:Dg us:=by rw [hus];exact (Dg_dg _).app (Dg.rep _)
 have husl:us.length = x.length + 1:=by rw [hus,List.length_append,List.length_replicate];omega
 have husU:Us (dg U) ++ List.replicate k (Un 0) = Us us:=by rw [Us_rep,← Us_app,hus]
 have hstart:nv (us.drop p) < V:=by
  have h1:=nv_cut us p
  rw [husn] at h1
  have h2:18446744073709551616 ^ x.length * 9223372036854775808 = 18446744073709551616 ^ p * (9223372036854775808 * 18446744073709551616 ^ (y.length - 1)):=by
   rw [show x.length = p + (y.length - 1) by omega,Nat.pow_add,Nat.mul_assoc,Nat.mul_comm 9223372036854775808]
  rw [h2] at hUhigh
  have h3:18446744073709551616 ^ p * nv (us.drop p) < 18446744073709551616 ^ p * (9223372036854775808 * 18446744073709551616 ^ (y.length - 1)):=by omega
  exact Nat.lt_of_lt_of_le (Nat.lt_of_mul_lt_mul_left h3) hVlow
 obtain ⟨qs,hqs⟩ : ∃ qs,qs = List.replicate p 0:=⟨_,rfl⟩
 have hqsl:qs.length = p:=by rw [hqs,List.length_replicate]
 have hqsd:Dg qs:=by rw [hqs];exact Dg.rep _
 rw [← hv] at hUpV
 have hcase:=fun N q=>div_case (N:=N) (p:=q) (V:=V) (s:=s) (a:=na) (b:=nb) hV
 rw [← hU] at hcase
 have hxle:x.length ≤ 549755813888:=by omega
 have pk:Unit→(nv us = U∧nv v = V∧v.getD (v.length - 1) 0 ≠ 0∧V < 18446744073709551616 ^ y.length∧nv (us.drop p) < V):=fun _=>⟨husn,hvn,hvt,hVhigh,hstart⟩
 clear hUhigh hVlow htb hV1 hV2 hnaL hV hU hx hy hs63 hv hna hnb htop2 hty husn hvn hvt hVhigh hstart hg hse hge hb1 hb0
 refine Tr.enter env _ Tryz.func159 (by kernel_rfl) rfl Tryz.ntmps159 rfl (by repeat (first | exact has00 | refine has01 ?_)) fun w0=>?_
 repeat' first|(refine gca ?_;first|(refine ca (hTa (by omega)) ?_;rintro u1 _ ⟨hu1,rfl⟩)|(refine ca (hTb (by omega)) ?_;rintro u2 _ ⟨hu2,rfl⟩)|(refine ca (Cmp_tr u1 u2 x y hxd hyd) ?_;rintro _ _ ⟨rfl,rfl⟩)|(refine ca hLZ ?_;rintro _ _ ⟨rfl,rfl⟩)|(refine ca (hUpV u2) ?_;rintro _ _ ⟨vv,rfl,hvv,rfl⟩)|(refine ca (hUpU u1) ?_;rintro _ _ ⟨uu,rfl,huu,rfl⟩))|refine lue htop ?_|(refine aw ?_;rw [hk])|(refine aw ?_;rw [hp])|(refine apzo (k:=k) (xs:=Us (dg U)) (z:=Un 0) (hl:=by rw [Us_len];omega) fun o=>?_;rw [husU])|(refine mku fun qv=>?_;rw [Int.toNat_natCast,← hqs])|(refine wo ?_;first|(refine ao ?_;first|refine aw ?_|refine oa ?_)|refine oa ?_|refine lnm ?_|refine ixm ?_)|(refine gc ?_;first|(refine ci (fun hB=>?_) (fun hB=>?_) <;> try (exfalso;omega)))|refine sq ?_|refine rg ?_|refine xc ?_|refine nl ?_|refine sk ?_|refine bk ?_|refine xb ?_
 obtain ⟨husn,hvn,hvt,hVhigh,hstart⟩:=pk ()
 refine TC.loop (ι:=Int × List Nat × List Nat) (fun i=>[(16,I i.1)]) (fun i=>[own T64 o (Us i.2.1),own T64 qv (Us i.2.2)])
  (fun i=>i.2.1.length = x.length + 1∧i.2.2.length = p∧Dg i.2.1∧Dg i.2.2∧-1 ≤ i.1∧i.1 < p∧nv i.2.1 + 18446744073709551616 ^ (i.1 + 1).toNat * nv (i.2.2.drop (i.1 + 1).toNat) * V = U∧nv (i.2.1.drop (i.1 + 1).toNat) < V)
  (fun i=>(i.1 + 1).toNat) ((qs.length:Int) - 1,us,qs) [10,11,13,15] ⟨husl,hqsl,husd,hqsd,by dsimp only;omega,by dsimp only;omega,?_,?_⟩ ?_
 ·dsimp only
  rw [show ((qs.length:Int) - 1 + 1).toNat = qs.length by omega,List.drop_eq_nil_of_le (Nat.le_refl _),husn];simp [nv]
 ·dsimp only
  rw [show ((qs.length:Int) - 1 + 1).toNat = p by omega];exact hstart
 clear hstart hUpV hUpU hLZ hTa hTb hc husU hus husn husd husl hqs hqsl hqsd htop hk hp hge2 hUl hal hbl hxl0 pk hla hlb
 rintro ⟨ji,ys,ws⟩ ⟨h1,h2,h3,h4,h5,h6,hI,hR⟩
 dsimp only at h1 h2 h3 h4 h5 h6 hI hR ⊢
 by_cases hj:0 ≤ ji
 ·obtain ⟨j,rfl⟩ : ∃ j:Nat,ji = j:=⟨ji.toNat,by omega⟩
  rw [show ((j:Int) + 1).toNat = j + 1 by omega] at hI hR
  have hjl:j + v.length + 1 ≤ ys.length:=by omega
  have hVb:V < 18446744073709551616 ^ v.length:=by rw [hvl];exact hVhigh
  have hz:nv (ys.drop (j + v.length + 1)) = 0:=by
   have h:=nv_cut (ys.drop (j + 1)) v.length
   rw [List.drop_drop,show j + 1 + v.length = j + v.length + 1 by omega] at h
   rcases Nat.eq_zero_or_pos (nv (ys.drop (j + v.length + 1))) with h0 | h0
   ·exact h0
   ·have:=Nat.mul_le_mul_left (18446744073709551616 ^ v.length) h0
    omega
  have hW:=win_facts (ys:=ys) (j:=j) (n:=v.length) hjl
  have hWd:nv (ys.drop j) = nv ((ys.take (j + v.length + 1)).drop j):=by
   have h:=nv_cut (ys.drop j) (v.length + 1)
   rw [List.drop_drop,List.take_drop,show j + (v.length + 1) = j + v.length + 1 by omega,hz,Nat.mul_zero,Nat.add_zero] at h
   exact h
  have hys:=nv_step ys j
  have hyj:=h3.getD j
  have hwB:nv ((ys.take (j + v.length + 1)).drop j) < nv v * 18446744073709551616:=by
   rw [← hWd,hys,hvn]
   have:=Nat.mul_le_mul_left 18446744073709551616 hR
   rw [Nat.mul_succ,Nat.mul_comm _ V] at this
   omega
  have hst:=step_tr o vv ys v j h3 hvd (by omega) hvt hjl (by omega) hwB
  rw [hvn] at hst
  obtain ⟨w,hw⟩ : ∃ w,w = nv ((ys.take (j + v.length + 1)).drop j):=⟨_,rfl⟩
  rw [← hw] at hst hW hWd
  have hV0:0 < V:=by omega
  have hrl:(dg (w % V)).length ≤ v.length + 1:=Nat.le_trans ((dg_len _ _).2 (Nat.lt_trans (Nat.mod_lt _ hV0) hVb)) (by omega)
  obtain ⟨s1,s2,s3,s4⟩:=stepL_facts hrl hjl h3 (Dg_dg (w % V))
  rw [hz,Nat.mul_zero,Nat.add_zero,nv_dg] at s3 s4
  rw [hz,Nat.mul_zero,Nat.add_zero] at hW
  have hq:=nv_set_drop ws j (w / V) (by omega)
  have hqb:w / V < 18446744073709551616:=by
   rw [Nat.div_lt_iff_lt_mul hV0,Nat.mul_comm,← hvn,hw];exact hwB
  have hmV:w % V < V:=Nat.mod_lt _ hV0
  have hfin:nv (stepL ys j v.length (dg (w % V))) + 18446744073709551616 ^ j * nv ((ws.set j (w / V)).drop j) * V = U:=by
   have h:=Nat.div_add_mod w V
   rw [s3,hq,← hI,hW,Nat.pow_succ]
   rw [Nat.mul_add,Nat.add_mul,show 18446744073709551616 ^ j * (18446744073709551616 * nv (ws.drop (j + 1))) * V = 18446744073709551616 ^ j * 18446744073709551616 * nv (ws.drop (j + 1)) * V by ac_rfl]
   have h':=congrArg (18446744073709551616 ^ j * ·) h
   simp only [Nat.mul_add] at h'
   rw [show 18446744073709551616 ^ j * (w / V) * V = 18446744073709551616 ^ j * (V * (w / V)) by ac_rfl]
   omega
  obtain ⟨qd,hqd⟩ : ∃ qd,qd = w / V:=⟨_,rfl⟩
  obtain ⟨zs,hzs⟩ : ∃ zs,zs = stepL ys j v.length (dg (w % V)):=⟨_,rfl⟩
  rw [← hqd] at hst hfin hqb
  rw [← hzs] at hst hfin s1 s2 s4
  have pk2:Unit→(nv zs + 18446744073709551616 ^ j * nv ((ws.set j qd).drop j) * V = U∧nv (zs.drop j) < V):=fun _=>⟨hfin,by rw [s4];exact hmV⟩
  clear hqd hzs hq s3 hrl hw hW hWd hys hwB hz hI hR hVb hvt hfin s4 hmV hVhigh hvn hV0 hyj
  repeat' first|(refine gca ?_;first|(refine ca hst ?_;rintro _ _ ⟨rfl,rfl⟩))|refine sou ?_|(refine aw ?_;rw [show (j:Int) + (v.length:Int) + 1 = ((j + v.length + 1:Nat):Int) by omega])|(refine wo ?_;first|(refine ao ?_;first|refine aw ?_|refine oa ?_)|refine oa ?_|refine lnm ?_|refine ixmn ?_|refine scm ?_)|(refine gc ?_;first|refine ct ?_)|refine sq ?_|refine rg ?_|refine xc ?_|refine nl ?_|refine sk ?_|refine bk ?_|refine xb ?_
  exact lp ((j:Int) - 1,zs,ws.set j qd) ⟨by dsimp only;omega,by dsimp only;rw [List.length_set];exact h2,s2,h4.set hqb,by dsimp only;omega,by dsimp only;omega,by dsimp only;rw [show ((j:Int) - 1 + 1).toNat = j by omega];exact (pk2 ()).1,by dsimp only;rw [show ((j:Int) - 1 + 1).toNat = j by omega];exact (pk2 ()).2⟩
 ·obtain rfl:ji = -1:=by omega
  rw [show ((-1:Int) + 1).toNat = 0 from rfl,List.drop_zero,Nat.pow_zero,Nat.one_mul] at hI
  rw [show ((-1:Int) + 1).toNat = 0 from rfl,List.drop_zero] at hR
  obtain ⟨c1,c2⟩:=hcase _ _ hI hR
  unfold DivR
  rw [← c1,← c2]
  have hyl:=dg_len_le h3
  have hDn:=fun v1=>NDown_tr v1 (dg (nv ys)) s hs (Dg_dg _) (by omega)
  simp only [nv_dg] at hDn
  repeat' first|(refine gca ?_;first|(refine ca (Trim_tr o ys h3 (by omega)) ?_;rintro o2 _ ⟨ho2,rfl⟩)|(refine ca (Trim_tr qv ws h4 (by omega)) ?_;rintro q2 _ ⟨hq2,rfl⟩)|(refine ca (hDn o2) ?_;rintro _ _ ⟨lf,rfl,hlf,rfl⟩))|(refine wo ?_;first|(refine ao ?_;first|refine oa ?_)|refine oa ?_)|(refine gc ?_;first|refine cf ?_)|refine sq ?_|refine rg ?_|refine xc ?_|refine nl ?_|refine xe ?_|refine rt ?_
  exact r3 ⟨q2,lf,rfl,hq2,hlf,rfl⟩
end Go.Art
namespace Go.Art
open Go Go.Proofs Go.RowKit
attribute [local irreducible] Fit pt own ro vw mpc lpt vels rels mow lrc dfr
theorem NDiv_tr (va vb:Value) (a b:List Nat) (ha:Dg a) (hb:Dg b) (hla:a.length ≤ 549755813888) (hlb:b.length ≤ 549755813888) (hb0:nv b ≠ 0):Tr Tryz.prog 159 [va,vb] [vw va (Us a),vw vb (Us b)] [] (DivR (nv a) (nv b)):=by
 rcases Nat.lt_or_ge (nv a) (nv b) with h | h
 ·exact DivLt_tr va vb a b ha hb hla hlb h
 ·rcases Nat.lt_or_ge (nv b) 18446744073709551616 with h1 | h1
  ·exact DivOne_tr va vb a b ha hb hla hlb h hb0 h1
  ·exact DivMain_tr va vb a b ha hb hla hlb h h1
theorem NGcd_tr (va vb:Value) (a b:List Nat) (ha:Dg a) (hb:Dg b) (hla:a.length ≤ 549755813888) (hlb:b.length ≤ 549755813888):Tr Tryz.prog 125 [va,vb] [vw va (Us a),vw vb (Us b)] [] fun u D=>u.oneCell' = true∧D = [own T64 u (Us (dg (Nat.gcd (nv a) (nv b))))]:=by
 have h1:=dg_len_le ha
 have h2:=dg_len_le hb
 obtain ⟨na,hna⟩ : ∃ na,na = nv a:=⟨_,rfl⟩
 obtain ⟨nb,hnb⟩ : ∃ nb,nb = nv b:=⟨_,rfl⟩
 have hTa:=Trim_tr va a ha (by omega)
 have hTb:=Trim_tr vb b hb (by omega)
 rw [← hna] at h1 hTa ⊢
 rw [← hnb] at h2 hTb ⊢
 clear hna hnb
 refine Tr.enter env _ Tryz.func125 (by kernel_rfl) rfl Tryz.ntmps125 rfl (by repeat (first | exact has00 | refine has01 ?_)) fun w0=>?_
 repeat' first|(refine gca ?_;first|(refine ca hTa ?_;rintro u1 _ ⟨hu1,rfl⟩)|(refine ca hTb ?_;rintro u2 _ ⟨hu2,rfl⟩))|(refine wo ?_;first|refine oa ?_)|refine sq ?_|refine rg ?_|refine xc ?_|refine nl ?_|refine bk ?_
 refine TC.loop (ι:=Nat × Nat × Value × Value) (fun k=>[(0,k.2.2.1),(1,k.2.2.2)]) (fun k=>[own T64 k.2.2.1 (Us (dg k.1)),own T64 k.2.2.2 (Us (dg k.2.1))]) (fun k=>(dg k.1).length ≤ 549755813888∧(dg k.2.1).length ≤ 549755813888∧Nat.gcd k.1 k.2.1 = Nat.gcd na nb∧k.2.2.1.oneCell' = true∧k.2.2.2.oneCell' = true) (fun k=>k.2.1) (na,nb,u1,u2) [] ⟨by dsimp only;omega,by dsimp only;omega,rfl,hu1,hu2⟩ ?_
 rintro ⟨p,q,v1,v2⟩ ⟨g1,g2,g3,g4,g5⟩
 dsimp only at g1 g2 g3 g4 g5 ⊢
 by_cases hq:q = 0
 ·subst hq
  have hl:(dg 0).length = 0:=by rw [dg_zero];rfl
  rw [Nat.gcd_zero_right] at g3
  rw [← g3]
  repeat' first|(refine wo ?_;first|(refine ao ?_;first|refine oa ?_)|refine oa ?_|refine lnm ?_)|(refine gc ?_;first|(refine ci (fun hB=>?_) (fun hB=>?_) <;> try (exfalso;omega)))|refine sq ?_|refine rg ?_|refine xc ?_|refine nl ?_|refine xe ?_|refine rt ?_
  exact r1 ⟨g4,rfl⟩
 ·have hl:=dg_len_pos hq
  have hD:=NDiv_tr v1 v2 (dg p) (dg q) (Dg_dg p) (Dg_dg q) g1 g2 (by rw [nv_dg];exact hq)
  rw [nv_dg,nv_dg] at hD
  have hm:p % q < q:=Nat.mod_lt _ (by omega)
  have hml:=Nat.le_trans (dg_mono (Nat.le_of_lt hm)) g2
  have hg:Nat.gcd q (p % q) = Nat.gcd na nb:=by rw [← g3,Nat.gcd_comm p q,Nat.gcd_rec q p,Nat.gcd_comm]
  obtain ⟨r,hr⟩ : ∃ r,r = p % q:=⟨_,rfl⟩
  unfold DivR at hD
  rw [← hr] at hm hml hg hD
  repeat' first|(refine gca ?_;first|(refine ca hD ?_;rintro _ _ ⟨qv,rv,rfl,hqv,hrv,rfl⟩))|(refine wo ?_;first|(refine ao ?_;first|refine oa ?_)|refine oa ?_|refine lnm ?_)|(refine gc ?_;first|(refine ci (fun hB=>?_) (fun hB=>?_) <;> try (exfalso;omega)))|refine sq ?_|refine rg ?_|refine xc ?_|refine nl ?_|refine sk ?_|refine bk ?_|refine xb ?_
  exact lp (q,r,v2,rv) ⟨g2,hml,hg,g5,hrv⟩
end Go.Art
namespace Go.Art
open Go Go.Proofs Go.RowKit
def setPartsF (pf:Nat→Option (Nat × Nat)):List Value→List (Nat × Value)→Option (List Value)
 | cs,[]=>some cs
 | cs,(i,v) :: r=>match pf i with
  | some (off,sz)=>bif Nat.beq v.cells.size sz && Nat.ble (off + sz) cs.length then setPartsF pf (cs.take off ++ v.cells.toList ++ cs.drop (off + sz)) r else none
  | none=>none
theorem fill_partsF {pf:Nat→Option (Nat × Nat)}:∀ {vs:List (Nat × Value)} {cs cs':List Value},setPartsF pf cs vs = some cs'→Instr.fill pf cs.toArray vs = some cs'.toArray
 | [],cs,cs',h=>by simp [setPartsF] at h;simp [Instr.fill,h]
 | (i,v) :: r,cs,cs',h=>by
  simp only [setPartsF] at h
  cases hp:pf i with
  | none=>rw [hp] at h;cases h
  | some q=>
   obtain ⟨off,sz⟩:=q
   rw [hp] at h
   simp only at h
   by_cases hc:(Nat.beq v.cells.size sz && Nat.ble (off + sz) cs.length) = true
   ·rw [hc,cond_true] at h
    simp only [Bool.and_eq_true] at hc
    have h1:=Nat.eq_of_beq_eq_true hc.1
    have h2:=Nat.le_of_ble_eq_true hc.2
    simp only [Instr.fill,hp]
    have hx1:¬ ((decide (v.cells.size ≠ sz) || decide (off + v.cells.size > cs.toArray.size)) = true):=by simp [h1];omega
    rw [if_neg hx1]
    have hf:(v.cells.zipIdx.foldl (fun cs (x:Value × Nat)=>cs.setIfInBounds (off + x.2) x.1) cs.toArray) = (cs.take off ++ v.cells.toList ++ cs.drop (off + sz)).toArray:=by
     have:=foldl_set v.cells.toList off 0 cs.toArray (by simp;omega)
     simp only [Nat.add_zero] at this
     rw [← Array.foldl_toList,Array.toList_zipIdx,this]
     simp [h1]
    show Instr.fill _ (v.cells.zipIdx.foldl (fun cs (x:Value × Nat)=>cs.setIfInBounds (off + x.2) x.1) cs.toArray) r = _
    rw [hf]
    exact fill_partsF h
   ·have:(Nat.beq v.cells.size sz && Nat.ble (off + sz) cs.length) = false:=by simpa only [Bool.not_eq_true] using hc
    rw [this,cond_false] at h;cases h
section
variable {P:Program} {E:Env P} {n:Sh} {X:Cx} {s:List K} {fr:Fr} {A A':List Ch} {ops:Array Oper} {rest:List Oper} {d m sz sz1 by_ by1:Nat} {ty t t' el:TypeId} {pos:String} {after:Array Edge} {x y:Operand} {w:World} {cs zs vs:List Value} {v z:Value} {parts:List (Nat × Operand)} {ps:List (Nat × Value)} {dt:TypeDesc} {i:Int} {k1:IntKind}
theorem R_buildArr (ht:lk E.und t = some (.array m el)) (he:lk E.inf t = some (.agg zs.toArray,sz,by_)) (h1:lk E.inf el = some (z,sz1,by1)) (hv:evps fr parts = some ps) (hs:setPartsF (fun i=>some (i * sz1,sz1)) zs ps = some cs):OpV P n fr (.build t parts.toArray) ty w (.agg cs.toArray) w:=⟨fun a ha _ _ _ _=>by
 obtain ⟨inf,hi,hz,_,_⟩:=E.info he
 obtain ⟨inf1,hi1,_,hz1,_⟩:=E.info h1
 have h2:=ha.evps hv
 have h3:=fill_partsF hs
 have hb:(Instr.build t (ps.toArray)).run P w = .ok (.agg cs.toArray) w:=by
  unfold Instr.build
  simp [zeroValue,typeInfo,run_underlying (P:=P) (E.un ht),hi,hz,Value.cells,sizeOf,hi1,hz1,h3]
 simp only [execOp]
 show Sem.run P (do let v ← Instr.build t ((parts.toArray.map fun (p:Nat × Operand)=>(p.1,a.eval p.2)));pure (Next.value v)) w = _
 rw [List.map_toArray,h2]
 simp [hb]⟩
theorem R_index1 (ht:lk E.und t = some (.array m el)) (hdt:lk E.und el = some dt) (hg:aggB dt = false) (h1:lk E.inf el = some (z,1,by1)) (hx:ev fr x = some (.agg cs.toArray)) (hy:ev fr y = some (.int k1 i)) (hi:0 ≤ i∧i < m) (hv:cs[i.toNat]? = some v) :
  OpV P n fr (.index t x y) ty w v w:=⟨fun a ha _ _ _ _=>by
 obtain ⟨inf1,hi1,_,hz1,_⟩:=E.info h1
 simp only [execOp,ha.ev hx,ha.ev hy]
 simp [Instr.index,asIntOf,run_underlying (P:=P) (E.un ht),hi,part,aggB_run (w:=w) hdt hg,sizeOf,typeInfo,hi1,hz1,hv]⟩
end
section
variable {P:Program} {E:Env P} {n:Sh} {X:Cx} {s:List K} {fr:Fr} {A:List Ch} {ops:Array Oper} {rest:List Oper} {d:Nat} {ty:TypeId} {pos:String} {after:Array Edge} {v:Value} {f:FuncId} {g:Operand} {cap:Array Value} {args:List Operand} {ats:Array TypeId} {vs:List Value} {pre:List Ch} {R:Value→List Ch→Prop}
end
end Go.Art
namespace Go.Art
open Go Go.Proofs Go.RowKit
abbrev TIt:TypeId:=42
abbrev IR (z:Int) (u:Value) (D:List Ch):Prop:=∃ o,u = .agg #[.bool (decide (z < 0)),o]∧o.oneCell' = true∧D = [own T64 o (Us (dg z.natAbs))]
def sg (b:Bool) (n:Nat):Int:=if b then -(n:Int) else n
theorem sg_abs (b:Bool) (n:Nat):(sg b n).natAbs = n:=by unfold sg;split <;> omega
theorem sg_neg (b:Bool) (n:Nat):decide (sg b n < 0) = (b && decide (0 < n)):=by
 unfold sg
 cases b
 ·simp
 ·simp
attribute [local irreducible] Fit pt own ro vw mpc lpt vels rels mow lrc dfr
theorem IMake_tr (b:Bool) (v:Value) (l:List Nat) (hd:Dg l) (hl:l.length ≤ 1099511627776):Tr Tryz.prog 43 [.bool b,v] [vw v (Us l)] [] (IR (sg b (nv l))):=by
 have hlp:0 < (dg (nv l)).length ↔ 0 < nv l:=⟨fun h=>Nat.pos_of_ne_zero fun e=>by rw [e,dg_zero] at h;simp at h,fun h=>dg_len_pos (by omega)⟩
 have hll:=dg_len_le hd
 unfold IR
 rw [sg_abs,sg_neg]
 refine Tr.enter env _ Tryz.func43 (by kernel_rfl) rfl Tryz.ntmps43 rfl (by repeat (first | exact has00 | refine has01 ?_)) fun w0=>?_
 repeat' first|(refine gca ?_;first|(refine ca (Trim_tr v l hd (by omega)) ?_;rintro o _ ⟨ho,rfl⟩))|refine al fun c=>?_|refine bdz ?_|refine srz ?_|refine lda ?_|(refine wo ?_;first|(refine ao ?_;first|refine oa ?_)|refine oa ?_|refine ld ?_|refine lnm ?_|refine sr ?_|refine gy ?_|refine gn ?_|(refine gs (fun hB=>?_) (fun hB=>?_) <;> try (exfalso;omega)))|refine sq ?_|refine rg ?_|refine xc ?_|refine nl ?_|refine rt ?_
 ·rename_i b0;subst hB
  exact rca1 (b:=b0) (cs:=[.bool (decide (0 < ((dg (nv l)).length:Int))),o]) (vs:=[.bool (decide (0 < ((dg (nv l)).length:Int))),o]) (T:=TIt) ⟨o,by simp [hlp],ho,rfl⟩
 ·rename_i b0;subst hB
  exact rca1 (b:=b0) (cs:=[.bool false,o]) (vs:=[.bool false,o]) (T:=TIt) ⟨o,rfl,ho,rfl⟩
end Go.Art
namespace Go.Art
open Go Go.Proofs Go.RowKit
abbrev iv (z:Int) (o:Value):Value:=.agg #[.bool (decide (z < 0)),o]
abbrev dz (z:Int):List Nat:=dg z.natAbs
theorem ifc {α:Type} {p q:Prop} [Decidable p] [Decidable q] (h:p ↔ q) (a b:α):(if p then a else b) = if q then a else b:=by
 by_cases hp:p
 ·rw [if_pos hp,if_pos (h.1 hp)]
 ·rw [if_neg hp,if_neg fun hq=>hp (h.2 hq)]
theorem dg_len1 {n:Nat} (h:n < 18446744073709551616):(dg n).length ≤ 1:=(dg_len n 1).2 (by simpa using h)
attribute [local irreducible] Fit pt own ro vw mpc lpt vels rels mow lrc dfr
theorem IOf_tr (x:Nat) (hx:x < 9223372036854775808):Tr Tryz.prog 41 [I x] [] [] (IR (x:Int)):=by
 have h1:=dg_len1 (n:=x) (by omega)
 have hM:=fun o=>IMake_tr false o (dg x) (Dg_dg x) (by omega)
 have hs:sg false x = (x:Int):=rfl
 simp only [nv_dg,hs] at hM
 unfold IR at hM ⊢
 refine Tr.enter env _ Tryz.func41 (by kernel_rfl) rfl Tryz.ntmps41 rfl (by repeat (first | exact has00 | refine has01 ?_)) fun w0=>?_
 repeat' first|(refine gca ?_;first|(refine ca (Of_tr x (by omega)) ?_;rintro o _ ⟨ho,rfl⟩)|(refine ca (hM o) ?_;rintro _ _ ⟨o2,rfl,ho2,rfl⟩))|refine al fun c=>?_|refine srz ?_|(refine wo ?_;first|(refine ao ?_;first|refine oa ?_)|refine ntu ?_|refine oa ?_)|(refine gc ?_;first|refine cf ?_)|refine sq ?_|refine rg ?_|refine xc ?_|refine nl ?_|refine sk ?_|refine rt ?_
 exact rca1 (cs:=[.bool (decide ((x:Int) < 0)),o2]) (vs:=[.bool (decide ((x:Int) < 0)),o2]) (T:=TIt) ⟨o2,rfl,ho2,rfl⟩
theorem ICheck_tr (b:Bool) (o:Value) (l:List Nat):Tr Tryz.prog 78 [.agg #[.bool b,o]] [vw o (Us l)] [] fun u D=>u = I (if (b = true∧l.length = 0)∨(0 < l.length∧l.getD (l.length - 1) 0 = 0) then 6 else 0)∧D = []:=by
 have hC:=Check_tr o l
 obtain ⟨c,hc⟩ : ∃ c:Int,c = (if 0 < l.length∧l.getD (l.length - 1) 0 = 0 then 6 else 0):=⟨_,rfl⟩
 rw [← hc] at hC
 refine Tr.enter env _ Tryz.func78 (by kernel_rfl) rfl Tryz.ntmps78 rfl (by repeat (first | exact has00 | refine has01 ?_)) fun w0=>?_
 repeat' first|(refine gca ?_;first|(refine ca hC ?_;rintro _ _ ⟨rfl,rfl⟩))|refine bx fun q=>?_|refine lda ?_|(refine wo ?_;first|(refine ao ?_;first|refine oa ?_)|refine oa ?_|refine ld ?_|refine lnm ?_|refine gy ?_|refine gn ?_|(refine gs (fun hB=>?_) (fun hB=>?_) <;> try (exfalso;omega)))|(refine gc ?_;first|refine cf ?_|(refine ci (fun hB=>?_) (fun hB=>?_) <;> try (exfalso;omega)))|refine sq ?_|refine rg ?_|refine xc ?_|refine nl ?_|refine sk ?_|refine rt ?_
 ·exact r1 ⟨by rw [if_pos (.inl ⟨by assumption,by omega⟩)],rfl⟩
 ·exact r1 ⟨(congrArg I hc).trans (congrArg I (ifc ⟨.inr,fun h=>h.resolve_left fun k=>by omega⟩ _ _)),rfl⟩
 ·exact r1 ⟨(congrArg I hc).trans (congrArg I (ifc ⟨.inr,fun h=>h.resolve_left fun k=>by rw [hB] at k;cases k.1⟩ _ _)),rfl⟩
theorem by_tr (va vb:Value) (a b:List Nat) (ha:Dg a) (hb:Dg b) (hla:a.length ≤ 549755813888) (hlb:b.length ≤ 549755813888) (hb0:nv b ≠ 0):Tr Tryz.prog 126 [va,vb] [vw va (Us a),vw vb (Us b)] [] fun u D=>u.oneCell' = true∧D = [own T64 u (Us (dg (nv a / nv b)))]:=by
 have hD:=NDiv_tr va vb a b ha hb hla hlb hb0
 obtain ⟨m,hm⟩ : ∃ m,m = nv a / nv b:=⟨_,rfl⟩
 unfold DivR at hD
 simp only [← hm] at hD
 rw [← hm]
 refine Tr.enter env _ Tryz.func126 (by kernel_rfl) rfl Tryz.ntmps126 rfl (by repeat (first | exact has00 | refine has01 ?_)) fun w0=>?_
 repeat' first|(refine gca ?_;first|(refine ca hD ?_;rintro _ _ ⟨qv,rv,rfl,hqv,hrv,rfl⟩))|(refine wo ?_;first|refine oa ?_)|refine sq ?_|refine rg ?_|refine xc ?_|refine nl ?_|refine rt ?_
 exact r1 ⟨hqv,rfl⟩
end Go.Art
namespace Go.Art
open Go Go.Proofs Go.RowKit
abbrev TRt:TypeId:=44
abbrev rv (q:Rat) (vn vd:Value):Value:=.agg #[.bool (decide (q.num < 0)),vn,vd]
abbrev FQ (q:Rat) (u:Value) (D:List Ch):Prop:=∃ vn vd,u = rv q vn vd∧vn.oneCell' = true∧vd.oneCell' = true∧D = [own T64 vn (Us (dg q.num.natAbs)),own T64 vd (Us (dg q.den))]
abbrev rv0:Value:=.agg #[.bool false,nS,nS]
theorem mk_num (z:Int) {m:Nat} (hm:m ≠ 0):(mkRat z m).num = z / (Nat.gcd z.natAbs m:Nat):=by
 rw [Rat.mkRat_def,dif_neg hm,Rat.normalize_eq]
theorem mk_den (z:Int) {m:Nat} (hm:m ≠ 0):(mkRat z m).den = m / Nat.gcd z.natAbs m:=by
 rw [Rat.mkRat_def,dif_neg hm,Rat.normalize_eq]
theorem natAbs_div (z:Int) (g:Nat) (h:(g:Int) ∣ z):(z / (g:Int)).natAbs = z.natAbs / g:=by
 obtain ⟨c,rfl⟩:=h
 by_cases hg:g = 0
 ·subst hg;simp
 ·rw [Int.mul_ediv_cancel_left _ (by omega),Int.natAbs_mul,Int.natAbs_natCast,Nat.mul_div_cancel_left _ (by omega)]
theorem mk_abs (z:Int) {m:Nat} (hm:m ≠ 0):(mkRat z m).num.natAbs = z.natAbs / Nat.gcd z.natAbs m:=by
 rw [mk_num z hm,natAbs_div]
 exact Int.ofNat_dvd_left.2 (Nat.gcd_dvd_left _ _)
theorem mk_neg (z:Int) {m:Nat} (hm:m ≠ 0):(mkRat z m).num < 0 ↔ z < 0:=by
 have hg:0 < Nat.gcd z.natAbs m:=Nat.gcd_pos_of_pos_right _ (by omega)
 rw [mk_num z hm]
 constructor
 ·intro h
  rcases Int.lt_or_le z 0 with h1 | h1
  ·exact h1
  ·have:=Int.ediv_nonneg h1 (Int.natCast_nonneg (Nat.gcd z.natAbs m));omega
 ·intro h;exact Int.ediv_neg_of_neg_of_pos h (by omega)
theorem sg_mk (b:Bool) (n:Nat) {m:Nat} (hm:m ≠ 0):decide ((mkRat (sg b n) m).num < 0) = (b && decide (0 < n / Nat.gcd n m)):=by
 have hg:0 < Nat.gcd n m:=Nat.gcd_pos_of_pos_right _ (by omega)
 rw [decide_eq_decide.2 (mk_neg _ hm),sg_neg]
 congr 1
 refine decide_eq_decide.2 ⟨fun h=>Nat.div_pos (Nat.le_of_dvd h (Nat.gcd_dvd_left _ _)) hg,fun h=>?_⟩
 rcases Nat.eq_zero_or_pos n with h0 | h0
 ·subst h0;simp at h
 ·exact h0
theorem dg_le {l:List Nat} (hd:Dg l) {n:Nat} (h:n ≤ nv l):(dg n).length ≤ l.length:=Nat.le_trans (dg_mono h) (dg_len_le hd)
attribute [local irreducible] Fit pt own ro vw mpc lpt vels rels mow lrc dfr
theorem lowest_tr (b:Bool) (o dv:Value) (l m:List Nat) (hl:Dg l) (hm:Dg m) (hll:l.length ≤ 68719476736) (hlm:m.length ≤ 68719476736) (hm0:nv m ≠ 0) :
  Tr Tryz.prog 80 [.agg #[.bool b,o],dv] [vw o (Us l),vw dv (Us m)] [] (FQ (mkRat (sg b (nv l)) (nv m))):=by
 have e1:=mk_abs (sg b (nv l)) hm0
 have e2:=mk_den (sg b (nv l)) hm0
 have e3:=sg_mk b (nv l) hm0
 rw [sg_abs] at e1 e2
 have hg0:Nat.gcd (nv l) (nv m) ≠ 0:=Nat.ne_of_gt (Nat.gcd_pos_of_pos_right _ (by omega))
 have hgl:(dg (Nat.gcd (nv l) (nv m))).length ≤ m.length:=dg_le hm (Nat.gcd_le_right _ (by omega))
 have hB1:=fun g=>by_tr o g l (dg (Nat.gcd (nv l) (nv m))) hl (Dg_dg _) (by omega) (by omega) (by rw [nv_dg];exact hg0)
 have hB2:=fun g=>by_tr dv g m (dg (Nat.gcd (nv l) (nv m))) hm (Dg_dg _) (by omega) (by omega) (by rw [nv_dg];exact hg0)
 have hG:=NGcd_tr o dv l m hl hm (by omega) (by omega)
 have hql:(dg (nv l / Nat.gcd (nv l) (nv m))).length ≤ l.length:=dg_le hl (Nat.div_le_self _ _)
 have hM:=fun u=>IMake_tr b u (dg (nv l / Nat.gcd (nv l) (nv m))) (Dg_dg _) (by omega)
 simp only [nv_dg] at hB1 hB2 hM
 unfold IR at hM
 simp only [sg_abs,sg_neg] at hM
 simp only [← e3] at hM
 rw [← e2] at hB2
 rw [← e1] at hB1 hM
 obtain ⟨q,hq⟩ : ∃ q,q = mkRat (sg b (nv l)) (nv m):=⟨_,rfl⟩
 obtain ⟨g,hgg⟩ : ∃ g,g = Nat.gcd (nv l) (nv m):=⟨_,rfl⟩
 rw [← hq] at hB1 hB2 hM ⊢
 rw [← hgg] at hB1 hB2 hG
 clear e1 e2 e3 hg0 hgl hql hq hgg
 refine Tr.enter env _ Tryz.func80 (by kernel_rfl) rfl Tryz.ntmps80 rfl (by repeat (first | exact has00 | refine has01 ?_)) fun w0=>?_
 repeat' first|(refine gca ?_;first|(refine ca hG ?_;rintro gv _ ⟨hgv,rfl⟩))|refine bx fun q1=>?_|refine al fun c=>?_|(refine wo ?_;first|refine oa ?_|refine ld ?_)|refine sq ?_|refine rg ?_|refine xc ?_|refine nl ?_
 refine rs (fun w=>w.heap[q1]? = some (.cells [.bool b,o].toArray TIt (0,0))) ?_ (fun w hw=>pt_at (b:=q1) (cs:=[.bool b,o]) (T:=TIt) memA hw)
 refine tka 0 ?_
 refine tkl 1 (cs:=[.bool b,o]) (fun w h=>h) ?_
 refine tka 2 ?_
 refine tkl 3 (cs:=[.bool b,o]) (fun w h=>h) ?_
 refine tka 4 ?_
 refine tka 7 ?_
 refine tka 8 ?_
 refine t1 5 ?_
 refine ca (hB1 gv) ?_
 rintro u1 _ ⟨hu1,rfl⟩
 refine nl ?_
 refine te (fun w hw=>pt_at (b:=q1) (cs:=[.bool b,o]) (T:=TIt) memA hw) ?_
 refine t1 6 ?_
 refine ca (hM u1) ?_
 rintro _ _ ⟨u2,rfl,hu2,rfl⟩
 refine nl ?_
 refine te (fun w hw=>pt_at (b:=q1) (cs:=[.bool b,o]) (T:=TIt) memA hw) ?_
 refine t1 9 ?_
 refine ca (hB2 gv) ?_
 rintro u3 _ ⟨hu3,rfl⟩
 refine nl ?_
 refine te (fun w hw=>pt_at (b:=q1) (cs:=[.bool b,o]) (T:=TIt) memA hw) ?_
 refine t1 10 ?_
 refine bdm ?_
 refine nl ?_
 refine te (fun w hw=>pt_at (b:=q1) (cs:=[.bool b,o]) (T:=TIt) memA hw) ?_
 refine t1 11 ?_
 refine srz ?_
 refine nl ?_
 refine te (fun w hw=>pt_at (b:=q1) (cs:=[.bool b,o]) (T:=TIt) memA hw) ?_
 refine t0 ?_
 repeat' first|refine xc ?_|refine rt ?_
 exact rca1 (cs:=[.bool (decide (q.num < 0)),u2,u3]) (vs:=[.bool (decide (q.num < 0)),u2,u3]) (T:=TRt) ⟨u2,u3,rfl,hu2,hu3,rfl⟩
end Go.Art
namespace Go.Art
open Go Go.Proofs Go.RowKit
abbrev FQ2 (q:Rat) (e:Int) (u:Value) (D:List Ch):Prop:=∃ vn vd,u = tup2 (rv q vn vd) (I e)∧vn.oneCell' = true∧vd.oneCell' = true∧D = [own T64 vn (Us (dg q.num.natAbs)),own T64 vd (Us (dg q.den))]
theorem Tm_top {l:List Nat} (h:Tm l):¬ (0 < l.length∧l.getD (l.length - 1) 0 = 0):=fun ⟨h1,h2⟩=>h.top h1 h2
theorem icheck_ok (z:Int):¬ ((decide (z < 0) = true∧(dz z).length = 0)∨(0 < (dz z).length∧(dz z).getD ((dz z).length - 1) 0 = 0)):=by
 rintro (⟨h1,h2⟩ | h)
 ·have h3:=dg_nil.1 (List.eq_nil_of_length_eq_zero h2)
  simp at h1;omega
 ·exact Tm_top (Tm_dg _) h
attribute [local irreducible] Fit pt own ro vw mpc lpt vels rels mow lrc dfr
theorem FMake_tr (z:Int) (o dv:Value) (m:List Nat) (hm:Dg m) (hll:(dz z).length ≤ 68719476736) (hlm:m.length ≤ 68719476736) (hm0:nv m ≠ 0) :
  Tr Tryz.prog 42 [iv z o,dv] [vw o (Us (dz z)),vw dv (Us m)] [] (FQ2 (mkRat z (nv m)) 0):=by
 have hC:=ICheck_tr (decide (z < 0)) o (dz z)
 rw [if_neg (icheck_ok z)] at hC
 have hN:=NLen_tr dv m hm (by omega)
 have hL:=lowest_tr (decide (z < 0)) o dv (dz z) m (Dg_dg _) hm hll hlm hm0
 have hs:sg (decide (z < 0)) (nv (dz z)) = z:=by
  unfold sg;rw [nv_dg]
  by_cases h:z < 0
  ·rw [if_pos (by simpa using h)];omega
  ·rw [if_neg (by simpa using h)];omega
 rw [hs] at hL
 unfold FQ at hL
 obtain ⟨q,hq⟩ : ∃ q,q = mkRat z (nv m):=⟨_,rfl⟩
 rw [← hq] at hL ⊢
 refine Tr.enter env _ Tryz.func42 (by kernel_rfl) rfl Tryz.ntmps42 rfl (by repeat (first | exact has00 | refine has01 ?_)) fun w0=>?_
 repeat' first|(refine gca ?_;first|(refine ca hC ?_;rintro _ _ ⟨rfl,rfl⟩)|(refine ca hN ?_;rintro _ _ ⟨⟨nb,rfl,hnb⟩,rfl⟩)|(refine ca hL ?_;rintro _ _ ⟨vn,vd,rfl,hvn,hvd,rfl⟩))|refine bx fun q1=>?_|refine al fun c=>?_|refine lda ?_|refine srz ?_|(refine wo ?_;first|(refine ao ?_;first|refine aw ?_|refine aw6 ?_|refine oa ?_|refine adiv ?_|refine amod ?_|refine shr1 ?_|refine shr ?_|refine umod ?_|refine isl ?_|refine ipe ?_|refine ipn ?_|refine ibe ?_)|refine acw ?_|refine ucv ?_|refine anw ?_|refine oa ?_|refine ld ?_|refine ldl ?_|refine lnm ?_|refine ixmn ?_|refine ixm ?_|refine li ?_|refine lb ?_|refine lv ?_|refine ln ?_|refine ixn ?_|refine ix ?_|refine le ?_|refine sr ?_|refine soi ?_|refine sob ?_|refine scm ?_|refine sclm ?_|refine schm ?_|refine gy ?_|refine gn ?_|refine gnn ?_|refine gu ?_|(refine gsi (fun hB=>?_) (fun hB=>?_) <;> try (exfalso;omega))|(refine gsn (fun hB=>?_) (fun hB=>?_) <;> try (exfalso;omega))|(refine gs (fun hB=>?_) (fun hB=>?_) <;> try (exfalso;omega)))|(refine gc ?_;first|refine ct ?_|refine cf ?_|(refine ci (fun hB=>?_) (fun hB=>?_) <;> try (exfalso;omega))|(refine cn (fun hB=>?_) (fun hB=>?_) <;> try (exfalso;omega))|(refine cb (fun hB=>?_) (fun hB=>?_) <;> try (exfalso;omega)))|refine sq ?_|refine rg ?_|refine xc ?_|refine nl ?_|refine sk ?_|refine bk ?_|refine xe ?_|refine rt ?_|refine xb ?_
 exact rca (cs:=[.bool (decide (q.num < 0)),vn,vd]) (vs:=[.bool (decide (q.num < 0)),vn,vd]) (T:=TRt) ⟨vn,vd,rfl,hvn,hvd,rfl⟩
theorem FPair_tr (x y:Nat) (hx:x < 9223372036854775808) (hy:y < 9223372036854775808) (hy0:y ≠ 0):Tr Tryz.prog 22 [I x,I y] [] [] (FQ2 (mkRat x y) 0):=by
 have hx1:=dg_len1 (n:=x) (by omega)
 have hy1:=dg_len1 (n:=y) (by omega)
 have hO:=IOf_tr x hx
 have hP:=IOf_tr y hy
 have hM:=fun o=>IMake_tr false o (dg x) (Dg_dg x) (by omega)
 have hs:sg false x = (x:Int):=rfl
 have hR:=fun o dv=>FMake_tr (x:Int) o dv (dg y) (Dg_dg y) (by unfold dz;rw [Int.natAbs_natCast];omega) (by omega) (by rw [nv_dg];exact hy0)
 simp only [nv_dg,hs] at hM hR
 unfold IR at hO hP hM
 unfold dz at hR
 simp only [Int.natAbs_natCast] at hO hP hM hR
 have hxn:decide ((x:Int) < 0) = false:=by simp
 have hyn:decide ((y:Int) < 0) = false:=by simp
 rw [hxn] at hO
 rw [hyn] at hP
 unfold FQ2 at hR
 obtain ⟨q,hq⟩ : ∃ q,q = mkRat (x:Int) y:=⟨_,rfl⟩
 simp only [← hq] at hR ⊢
 clear hq
 refine Tr.enter env _ Tryz.func22 (by kernel_rfl) rfl Tryz.ntmps22 rfl (by repeat (first | exact has00 | refine has01 ?_)) fun w0=>?_
 repeat' first|(refine gca ?_;first|(refine ca hO ?_;rintro _ _ ⟨o,rfl,ho,rfl⟩)|(refine ca hP ?_;rintro _ _ ⟨o2,rfl,ho2,rfl⟩))|refine al fun c=>?_|refine srz ?_|(refine wo ?_;first|(refine ao ?_;first|refine aw ?_|refine aw6 ?_|refine oa ?_|refine adiv ?_|refine amod ?_|refine shr1 ?_|refine shr ?_|refine umod ?_|refine isl ?_|refine ipe ?_|refine ipn ?_|refine ibe ?_)|refine acw ?_|refine ucv ?_|refine anw ?_|refine oa ?_|refine ld ?_|refine ldl ?_|refine lnm ?_|refine ixmn ?_|refine ixm ?_|refine li ?_|refine lb ?_|refine lv ?_|refine ln ?_|refine ixn ?_|refine ix ?_|refine le ?_|refine sr ?_|refine soi ?_|refine sob ?_|refine scm ?_|refine sclm ?_|refine schm ?_|refine gy ?_|refine gn ?_|refine gnn ?_|refine gu ?_|(refine gsi (fun hB=>?_) (fun hB=>?_) <;> try (exfalso;omega))|(refine gsn (fun hB=>?_) (fun hB=>?_) <;> try (exfalso;omega))|(refine gs (fun hB=>?_) (fun hB=>?_) <;> try (exfalso;omega)))|(refine gc ?_;first|refine ct ?_|refine cf ?_|(refine ci (fun hB=>?_) (fun hB=>?_) <;> try (exfalso;omega))|(refine cn (fun hB=>?_) (fun hB=>?_) <;> try (exfalso;omega))|(refine cb (fun hB=>?_) (fun hB=>?_) <;> try (exfalso;omega)))|refine sq ?_|refine rg ?_|refine xc ?_|refine nl ?_|refine sk ?_|refine bk ?_|refine xe ?_|refine rt ?_|refine xb ?_
 rename_i d0 d1
 rename Nat=>d2
 refine rs (fun w=>w.heap[d1]? = some (.cells [.bool false,o2].toArray TIt (0,0))∧w.heap[d2]? = some (.cells [.bool false,o].toArray TIt (0,0))) ?_ (fun w hw=>⟨pt_at (b:=d1) (cs:=[.bool false,o2]) (T:=TIt) memA hw,pt_at (b:=d2) (cs:=[.bool false,o]) (T:=TIt) memA hw⟩)
 refine tka 0 ?_
 refine tkl 1 (cs:=[.bool false,o]) (fun w h=>h.2) ?_
 refine tka 2 ?_
 refine tkl 3 (cs:=[.bool false,o2]) (fun w h=>h.1) ?_
 refine tk 4 (v:=.bool false) (fun _ _=>R_bne (E:=env) (b1:=false) (b2:=false) rfl rfl rfl) ?_
 refine tka 5 ?_
 refine tkl 6 (cs:=[.bool false,o]) (fun w h=>h.2) ?_
 refine tka 8 ?_
 refine tkl 9 (cs:=[.bool false,o2]) (fun w h=>h.1) ?_
 refine t1 7 ?_
 refine ca (hM o) ?_
 rintro _ _ ⟨o3,rfl,ho3,rfl⟩
 refine nl ?_
 refine te (fun w hw=>⟨pt_at (b:=d1) (cs:=[.bool false,o2]) (T:=TIt) memA hw,pt_at (b:=d2) (cs:=[.bool false,o]) (T:=TIt) memA hw⟩) ?_
 refine t1 10 ?_
 refine ca (hR o3 o2) ?_
 rintro _ _ ⟨vn,vd,rfl,hvn,hvd,rfl⟩
 refine nl ?_
 refine te (fun w hw=>⟨pt_at (b:=d1) (cs:=[.bool false,o2]) (T:=TIt) memA hw,pt_at (b:=d2) (cs:=[.bool false,o]) (T:=TIt) memA hw⟩) ?_
 refine tka 11 ?_
 refine tka 12 ?_
 refine t1 13 ?_
 refine srz ?_
 refine nl ?_
 refine te (fun w hw=>⟨pt_at (b:=d1) (cs:=[.bool false,o2]) (T:=TIt) memA hw,pt_at (b:=d2) (cs:=[.bool false,o]) (T:=TIt) memA hw⟩) ?_
 refine tka 14 ?_
 refine t0 ?_
 repeat' first|(refine wo ?_;first|(refine ao ?_;first|refine aw ?_|refine aw6 ?_|refine oa ?_|refine adiv ?_|refine amod ?_|refine shr1 ?_|refine shr ?_|refine umod ?_|refine isl ?_|refine ipe ?_|refine ipn ?_|refine ibe ?_)|refine acw ?_|refine ucv ?_|refine anw ?_|refine oa ?_|refine ld ?_|refine ldl ?_|refine lnm ?_|refine ixmn ?_|refine ixm ?_|refine li ?_|refine lb ?_|refine lv ?_|refine ln ?_|refine ixn ?_|refine ix ?_|refine le ?_|refine sr ?_|refine soi ?_|refine sob ?_|refine scm ?_|refine sclm ?_|refine schm ?_|refine gy ?_|refine gn ?_|refine gnn ?_|refine gu ?_|(refine gsi (fun hB=>?_) (fun hB=>?_) <;> try (exfalso;omega))|(refine gsn (fun hB=>?_) (fun hB=>?_) <;> try (exfalso;omega))|(refine gs (fun hB=>?_) (fun hB=>?_) <;> try (exfalso;omega)))|(refine gc ?_;first|refine ct ?_|refine cf ?_|(refine ci (fun hB=>?_) (fun hB=>?_) <;> try (exfalso;omega))|(refine cn (fun hB=>?_) (fun hB=>?_) <;> try (exfalso;omega))|(refine cb (fun hB=>?_) (fun hB=>?_) <;> try (exfalso;omega)))|refine sq ?_|refine rg ?_|refine xc ?_|refine nl ?_|refine sk ?_|refine bk ?_|refine xe ?_|refine rt ?_|refine xb ?_
 exact rca (cs:=[.bool (decide (q.num < 0)),vn,vd]) (vs:=[.bool (decide (q.num < 0)),vn,vd]) (T:=TRt) ⟨vn,vd,rfl,hvn,hvd,rfl⟩
end Go.Art
namespace Go.Art
open Go Go.Proofs Go.RowKit
def fall (n:Nat):Nat→Nat
 | 0=>1
 | k + 1=>fall n k * (n - k)
def chs:Nat→Nat→Nat
 | _,0=>1
 | 0,_ + 1=>0
 | n + 1,k + 1=>chs n k + chs n (k + 1)
theorem chs_zero (n:Nat):chs n 0 = 1:=by cases n <;> rfl
theorem chs_succ (n k:Nat):chs (n + 1) (k + 1) = chs n k + chs n (k + 1):=rfl
theorem chs_over:∀ {n k:Nat},n < k→chs n k = 0
 | 0,k + 1,_=>rfl
 | n + 1,k + 1,h=>by rw [chs_succ,chs_over (by omega),chs_over (by omega)]
theorem chs_self:∀ n:Nat,chs n n = 1
 | 0=>rfl
 | n + 1=>by rw [chs_succ,chs_self n,chs_over (by omega)]
theorem chs_next:∀ (n k:Nat),chs n (k + 1) * (k + 1) = chs n k * (n - k)
 | 0,0=>rfl
 | 0,k + 1=>by simp [chs]
 | n + 1,0=>by
  rw [chs_succ,chs_zero,chs_zero]
  have:=chs_next n 0
  rw [chs_zero] at this
  omega
 | n + 1,k + 1=>by
  have h1:=chs_next n k
  have h2:=chs_next n (k + 1)
  rw [chs_succ n (k + 1),chs_succ n k]
  rcases Nat.lt_or_ge k n with h | h
  ·obtain ⟨m,rfl⟩ : ∃ m,n = k + 1 + m:=⟨n - (k + 1),by omega⟩
   have e1:k + 1 + m - k = m + 1:=by omega
   have e2:k + 1 + m - (k + 1) = m:=by omega
   have e3:k + 1 + m + 1 - (k + 1) = m + 1:=by omega
   rw [e1] at h1
   rw [e2] at h2
   rw [e3]
   generalize chs (k + 1 + m) k = a at *
   generalize chs (k + 1 + m) (k + 1) = b at *
   generalize chs (k + 1 + m) (k + 1 + 1) = c at *
   rw [Nat.add_mul,h2,Nat.add_mul,← h1]
   simp only [Nat.mul_add,Nat.mul_one]
   omega
  ·rw [chs_over (k:=k + 1) (by omega),chs_over (k:=k + 1 + 1) (by omega),show n + 1 - (k + 1) = 0 by omega]
   simp
theorem chs_symm:∀ {n k:Nat},k ≤ n→chs n (n - k) = chs n k
 | 0,k,h=>by
  obtain rfl:k = 0:=(by omega)
  rfl
 | n + 1,0,_=>by rw [Nat.sub_zero,chs_self,chs_zero]
 | n + 1,k + 1,h=>by
  rcases Nat.lt_or_ge k n with h1 | h1
  ·rw [show n + 1 - (k + 1) = (n - (k + 1)) + 1 by omega,chs_succ,chs_succ,chs_symm (n:=n) (k:=k + 1) (by omega),show n - (k + 1) + 1 = n - k by omega,chs_symm (n:=n) (k:=k) (by omega)]
   omega
  ·obtain rfl:k = n:=by omega
   rw [show k + 1 - (k + 1) = 0 by omega,chs_zero,chs_self]
theorem chs_pos {n k:Nat} (h:k ≤ n):chs n k ≠ 0:=by
 induction n generalizing k with
 | zero=>
  obtain rfl:k = 0:=(by omega)
  exact Nat.one_ne_zero
 | succ n ih=>
  cases k with
  | zero=>rw [chs_zero];exact Nat.one_ne_zero
  | succ k=>rw [chs_succ];have:=ih (k:=k) (by omega);omega
theorem chs_le (n k:Nat):chs n k ≤ 2 ^ n:=by
 induction n generalizing k with
 | zero=>cases k <;> simp [chs]
 | succ n ih=>
  cases k with
  | zero=>rw [chs_zero];exact Nat.one_le_two_pow
  | succ k=>rw [chs_succ,Nat.pow_succ];have:=ih k;have:=ih (k + 1);omega
theorem chs_len (n k:Nat):(dg (chs n k)).length ≤ n + 1:=(dg_len _ _).2 (by
 refine Nat.lt_of_le_of_lt (chs_le n k) (Nat.lt_of_lt_of_le (Nat.pow_lt_pow_right (a:=2) (by decide) (Nat.lt_succ_self n)) (Nat.pow_le_pow_left (by decide) _))
)
theorem chs_step {n i:Nat}:chs n i * (n - i) / (i + 1) = chs n (i + 1):=by
 rw [← chs_next,Nat.mul_div_cancel _ (by omega)]
attribute [local irreducible] Fit pt own ro vw mpc lpt vels rels mow lrc dfr
abbrev eNat (u:Value) (D:List Ch) (m:Nat) (e:Int):Prop:=∃ o,u = tup2 o (I e)∧o.oneCell' = true∧D = [own T64 o (Us (dg m))]
theorem Choose_tr (n k:Nat) (hn:n ≤ 65536) (hk:k ≤ n):Tr Tryz.prog 115 [I n,I k] [] [] fun u D=>eNat u D (chs n k) 0:=by
 obtain ⟨m,hm⟩ : ∃ m,m = min k (n - k):=⟨_,rfl⟩
 have hcm:chs n m = chs n k:=by
  rw [hm]
  rcases Nat.le_total k (n - k) with h | h
  ·rw [Nat.min_eq_left h]
  ·rw [Nat.min_eq_right h,chs_symm hk]
 have hmn:m ≤ n:=by omega
 have hmi:min (k:Int) ((n:Int) - k) = (m:Int):=by omega
 rw [← hcm]
 clear hcm
 refine Tr.enter env _ Tryz.func115 (by kernel_rfl) rfl Tryz.ntmps115 rfl (by repeat (first | exact has00 | refine has01 ?_)) fun w0=>?_
 repeat' first|(refine gca ?_;first|(refine ca (Of_tr 1 (by decide)) ?_;rintro o _ ⟨ho,rfl⟩))|(refine mnn ?_;rw [hmi])|(refine wo ?_;first|(refine ao ?_;first|refine aw ?_|refine oa ?_)|refine oa ?_|refine gy ?_)|(refine gc ?_;first|(refine ci (fun hB=>?_) (fun hB=>?_) <;> try (exfalso;omega)))|refine sq ?_|refine rg ?_|refine xc ?_|refine nl ?_|refine sk ?_|refine bk ?_
 clear hmi hm
 refine TC.loop (ι:=Nat × Value) (fun g=>[(7,I ((g.1:Int) + 1)),(6,g.2),(8,I ((n:Int) - g.1)),(9,I ((m:Int) - g.1))]) (fun g=>[own T64 g.2 (Us (dg (chs n g.1)))]) (fun g=>g.1 ≤ m∧g.2.oneCell' = true) (fun g=>m - g.1) (0,o) [] ⟨Nat.zero_le _,ho⟩ ?_ (hf:=by dsimp only;rw [chs_zero];exact fitA) (hs:=by dsimp only;simp only [Int.natCast_zero,Int.sub_zero,Int.zero_add];(repeat (refine Sub.cons rfl (by first | rfl | go_num) ?_));exact Sub.nil)
 rintro ⟨i,v⟩ ⟨hi,hv⟩
 dsimp only at hi hv ⊢
 by_cases hlt:i < m
 ·have hG:=NGrow_tr v (dg (chs n i)) (n - i) (Dg_dg _) (by omega) (by have:=chs_len n i;omega)
  have hl1:(dg (chs n i * (n - i))).length ≤ n + 2:=by
   have h1:=(dg_len _ _).1 (chs_len n i)
   exact (dg_len _ _).2 (by rw [Nat.pow_succ];exact Nat.mul_lt_mul_of_lt_of_le h1 (by omega) (by decide))
  have hP:=fun v=>Part_tr v (dg (chs n i * (n - i))) (i + 1) (Dg_dg _) (by omega) (by omega) (by omega)
  simp only [nv_dg,chs_step] at hG hP
  repeat' first|(refine gca ?_;first|(refine ca hG ?_;rintro v2 _ ⟨hv2,rfl⟩)|(refine ca (hP v2) ?_;rintro _ _ ⟨v3,rfl,hv3,rfl⟩))|(refine ntu (m:=(n:Int) - i) ?_;rw [show ((n:Int) - i).toNat = n - i by omega])|(refine ntu (m:=(i:Int) + 1) ?_;rw [show ((i:Int) + 1).toNat = i + 1 by omega])|(refine wo ?_;first|(refine ao ?_;first|refine aw ?_|refine oa ?_)|refine oa ?_)|(refine gc ?_;first|(refine ci (fun hB=>?_) (fun hB=>?_) <;> try (exfalso;omega)))|refine sq ?_|refine rg ?_|refine xc ?_|refine nl ?_|refine sk ?_|refine bk ?_|refine xb ?_
  exact lp (i + 1,v3) ⟨hlt,hv3⟩ (hs:=by dsimp only;(repeat (refine Sub.cons rfl (by first | rfl | go_num) ?_));exact Sub.nil)
 ·obtain rfl:i = m:=by omega
  repeat' first|(refine wo ?_;first|(refine ao ?_;first|refine oa ?_)|refine oa ?_)|(refine gc ?_;first|(refine ci (fun hB=>?_) (fun hB=>?_) <;> try (exfalso;omega)))|refine sq ?_|refine rg ?_|refine xc ?_|refine nl ?_|refine xe ?_|refine rt ?_
  exact r2 ⟨v,rfl,hv,rfl⟩
end Go.Art
namespace Go.Art
open Go Go.Proofs Go.RowKit
def rowsW (tot:Int) (cut oth:List Int) (k:Int):List (List Int) × Int:=
 if rwE tot cut oth k = 0 then (if 4096 < (allL tot cut oth k.toNat).length then ([],4) else (allL tot cut oth k.toNat,0)) else ([],rwE tot cut oth k)
abbrev TLL:TypeId:=26
abbrev TEr:TypeId:=27
structure RwsG where
 v:Value
 hs:List Value
 i:Nat
 st:Bool
attribute [local irreducible] Fit pt own ro vw mpc lpt vels rels mow lrc dfr
attribute [local irreducible] lmp lme mit velg relg bnd owl dfrl allL rwE
end Go.Art
namespace Go.Art
open Go Go.Proofs Go.RowKit
def risL:Nat→Nat→Nat→List Int→List (List Int)
 | 0,_,_,b=>[b]
 | d + 1,f,k,b=>(List.range (k - d - f)).flatMap fun j:Nat=>risL d (f + j + 1) k (b ++ [((f + j:Nat):Int)])
def risR:Nat→Nat→Nat→List (List Int)
 | 0,_,_=>[[]]
 | d + 1,f,k=>(List.range (k - f)).flatMap fun j:Nat=>(risR d (f + j + 1) k).map fun l=>((f + j:Nat):Int) :: l
theorem fm_nil {α:Type} (g:Nat→List α) (n:Nat) (h:∀ j,j < n→g j = []):(List.range n).flatMap g = []:=by
 induction n with
 | zero=>rfl
 | succ n ih=>rw [fm_succ,ih (fun j hj=>h j (by omega)),h n (by omega)];rfl
theorem fm_cut {α:Type} (g:Nat→List α) {n m:Nat} (hm:m ≤ n) (h:∀ j,m ≤ j→j < n→g j = []):(List.range n).flatMap g = (List.range m).flatMap g:=by
 obtain ⟨q,rfl⟩:=Nat.exists_eq_add_of_le hm
 induction q with
 | zero=>rfl
 | succ q ih=>rw [← Nat.add_assoc,fm_succ,ih (by omega) (fun j h1 h2=>h j h1 (by omega)),h (m + q) (by omega) (by omega),List.append_nil]
theorem risR_nil:∀ (d f k:Nat),1 ≤ d→k < f + d→risR d f k = []
 | 0,_,_,h,_=>absurd h (by decide)
 | d + 1,f,k,_,h=>by
  refine fm_nil _ _ fun j hj=>?_
  cases d with
  | zero=>omega
  | succ d=>rw [risR_nil (d + 1) (f + j + 1) k (by omega) (by omega)];rfl
theorem risL_pre:∀ (d f k:Nat) (b:List Int),risL d f k b = (risR d f k).map (b ++ ·)
 | 0,f,k,b=>by simp [risL,risR]
 | d + 1,f,k,b=>by
  have h1:(List.range (k - f)).flatMap (fun j:Nat=>(risR d (f + j + 1) k).map fun l=>((f + j:Nat):Int) :: l) = (List.range (k - d - f)).flatMap (fun j:Nat=>(risR d (f + j + 1) k).map fun l=>((f + j:Nat):Int) :: l):=by
   refine fm_cut _ (by omega) fun j h1 h2=>?_
   cases d with
   | zero=>omega
   | succ d=>rw [risR_nil (d + 1) (f + j + 1) k (by omega) (by omega)];rfl
  show (List.range (k - d - f)).flatMap (fun j:Nat=>risL d (f + j + 1) k (b ++ [((f + j:Nat):Int)])) = ((List.range (k - f)).flatMap (fun j:Nat=>(risR d (f + j + 1) k).map fun l=>((f + j:Nat):Int) :: l)).map (b ++ ·)
  rw [h1,List.map_flatMap]
  refine congrArg (fun g=>(List.range (k - d - f)).flatMap g) (funext fun j=>?_)
  rw [risL_pre d (f + j + 1) k,List.map_map]
  refine List.map_congr_left fun l _=>?_
  simp
theorem risL_nil (d f k:Nat):risL d f k [] = risR d f k:=by rw [risL_pre];simp
theorem risR_len:∀ (d f k:Nat),(risR d f k).length = chs (k - f) d
 | 0,f,k=>by cases hk:k - f <;> rfl
 | d + 1,f,k=>by
  have key:∀ n f,k - f = n→(risR (d + 1) f k).length = chs n (d + 1):=by
   intro n
   induction n with
   | zero=>
    intro f hf
    show ((List.range (k - f)).flatMap _).length = _
    rw [hf];rfl
   | succ n ih=>
    intro f hf
    have h1:=ih (f + 1) (by omega)
    have h2:risR (d + 1) f k = (risR d (f + 1) k).map (fun l=>((f:Nat):Int) :: l) ++ risR (d + 1) (f + 1) k:=by
     show (List.range (k - f)).flatMap (fun j:Nat=>(risR d (f + j + 1) k).map fun l=>((f + j:Nat):Int) :: l) = _
     rw [hf,List.range_succ_eq_map,List.flatMap_cons,List.flatMap_map]
     congr 1
     show _ = (List.range (k - (f + 1))).flatMap (fun j:Nat=>(risR d (f + 1 + j + 1) k).map fun l=>((f + 1 + j:Nat):Int) :: l)
     rw [show k - (f + 1) = n by omega]
     refine congrArg (fun g=>(List.range n).flatMap g) (funext fun j=>?_)
     rw [show f + (j + 1) = f + 1 + j by omega]
    rw [h2,List.length_append,List.length_map,h1,risR_len d (f + 1) k,show k - (f + 1) = n by omega]
    rfl
  exact key _ f rfl
theorem risR_mem:∀ (d f k:Nat) (l:List Int),l ∈ risR d f k→l.length = d∧∀ x ∈ l,(f:Int) ≤ x∧x < k
 | 0,f,k,l,h=>by rw [List.mem_singleton.1 h];exact ⟨rfl,fun x hx=>nomatch hx⟩
 | d + 1,f,k,l,h=>by
  obtain ⟨j,hj,h1⟩:=List.mem_flatMap.1 h
  obtain ⟨m,hm,rfl⟩:=List.mem_map.1 h1
  obtain ⟨g1,g2⟩:=risR_mem d (f + j + 1) k m hm
  have hj:=List.mem_range.1 hj
  refine ⟨by simp [g1],fun x hx=>?_⟩
  rcases List.mem_cons.1 hx with rfl | hx
  ·omega
  ·have:=g2 x hx;omega
def setP (t:List Int) (k n:Nat):List (List Int):=(List.range n).flatMap fun i:Nat=>if t.getD i 0 = 0 then [] else risR (i + 1) 0 k
def setsW (t:List Int) (k:Int):List (List Int) × Int:=
 if solE t k = 0 then (if 4096 < (setP t k.toNat t.length).length then ([],4) else (setP t k.toNat t.length,0)) else ([],13)
theorem setP_mem {t:List Int} {k n:Nat} {l:List Int} (h:l ∈ setP t k n):1 ≤ l.length∧l.length ≤ n∧t.getD (l.length - 1) 0 ≠ 0∧l ∈ risR l.length 0 k:=by
 obtain ⟨i,hi,h1⟩:=List.mem_flatMap.1 h
 have hi:=List.mem_range.1 hi
 by_cases e:t.getD i 0 = 0
 ·rw [if_pos e] at h1;cases h1
 ·rw [if_neg e] at h1
  have h2:=(risR_mem _ _ _ _ h1).1
  rw [h2]
  exact ⟨by omega,by omega,e,h1⟩
open Go Go.Proofs Go.RowKit
def natG (W:List (List Int)→Bool) (L:List (List Int × Nat)):Nat→List (List Int)→Nat→Nat
 | 0,b,m=>if W b then m else 0
 | n + 1,b,m=>(L.map fun s=>natG W L n (b ++ [s.1]) (m * s.2)).sum
def digs (m:Nat):Nat→Nat→List Nat
 | 0,_=>[]
 | n + 1,j=>digs m n (j / m) ++ [j % m]
theorem digs_len (m:Nat):∀ n j,(digs m n j).length = n
 | 0,_=>rfl
 | n + 1,j=>by simp [digs,digs_len m n]
theorem digs_lt {m:Nat} (hm:0 < m):∀ n j,∀ x ∈ digs m n j,x < m
 | 0,_,x,h=>nomatch h
 | n + 1,j,x,h=>by
  rcases List.mem_append.1 h with h | h
  ·exact digs_lt hm n _ x h
  ·rw [List.mem_singleton.1 h];exact Nat.mod_lt _ hm
def selS (L:List (List Int × Nat)) (l:List Nat):List (List Int):=l.map fun i=>(L.getD i ([],0)).1
def prdW (L:List (List Int × Nat)) (l:List Nat):Nat:=l.foldl (fun a i=>a * (L.getD i ([],0)).2) 1
def tupN (W:List (List Int)→Bool) (L:List (List Int × Nat)) (l:List Nat):Nat:=if W (selS L l) then prdW L l else 0
def accN (W:List (List Int)→Bool) (L:List (List Int × Nat)) (n j:Nat):Nat:=((List.range j).map fun i=>tupN W L (digs L.length n i)).sum
theorem accN_zero (W:List (List Int)→Bool) (L:List (List Int × Nat)) (n:Nat):accN W L n 0 = 0:=rfl
theorem accN_succ (W:List (List Int)→Bool) (L:List (List Int × Nat)) (n j:Nat):accN W L n (j + 1) = accN W L n j + tupN W L (digs L.length n j):=by
 unfold accN;rw [List.range_succ,List.map_append,List.sum_append];simp
def sumR (m:Nat) (f:List Nat→Nat):Nat→List Nat→Nat
 | 0,b=>f b
 | n + 1,b=>((List.range m).map fun i=>sumR m f n (b ++ [i])).sum
theorem sumR_last (m:Nat) (f:List Nat→Nat):∀ n b,sumR m f (n + 1) b = sumR m (fun l=>((List.range m).map fun i=>f (l ++ [i])).sum) n b
 | 0,b=>rfl
 | n + 1,b=>by
  show ((List.range m).map fun i=>sumR m f (n + 1) (b ++ [i])).sum = ((List.range m).map fun i=>sumR m (fun l=>((List.range m).map fun i=>f (l ++ [i])).sum) n (b ++ [i])).sum
  exact congrArg List.sum (List.map_congr_left fun i _=>sumR_last m f n (b ++ [i]))
theorem sum_mul_range (m:Nat) (h:Nat→Nat):∀ q,((List.range (q * m)).map h).sum = ((List.range q).map fun j=>((List.range m).map fun i=>h (j * m + i)).sum).sum
 | 0=>by simp
 | q + 1=>by
  rw [Nat.succ_mul,List.range_add,List.map_append,List.sum_append,sum_mul_range m h q,List.range_succ,List.map_append,List.sum_append]
  simp [List.map_map,Function.comp_def]
theorem sum_digs {m:Nat} (hm:0 < m):∀ (n:Nat) (f:List Nat→Nat),((List.range (m ^ n)).map fun j=>f (digs m n j)).sum = sumR m f n []
 | 0,f=>by simp [digs,sumR]
 | n + 1,f=>by
  rw [Nat.pow_succ,sum_mul_range,sumR_last,← sum_digs hm n]
  refine congrArg List.sum (List.map_congr_left fun j _=>?_)
  refine congrArg List.sum (List.map_congr_left fun i hi=>?_)
  have hi:=List.mem_range.1 hi
  show f (digs m n ((j * m + i) / m) ++ [(j * m + i) % m]) = _
  rw [Nat.mul_comm j m,Nat.mul_add_div hm,Nat.div_eq_of_lt hi,Nat.add_zero,Nat.mul_add_mod,Nat.mod_eq_of_lt hi]
theorem map_range_getD {α:Type} (L:List α) (z:α) (g:α→Nat):((List.range L.length).map fun i=>g (L.getD i z)) = L.map g:=by
 refine List.ext_getElem (by simp) fun i h1 h2=>?_
 have hl:i < L.length:=by simpa using h2
 simp [List.getD_eq_getElem?_getD,hl]
theorem sumR_natG (W:List (List Int)→Bool) (L:List (List Int × Nat)):∀ n b,sumR L.length (tupN W L) n b = natG W L n (selS L b) (prdW L b)
 | 0,b=>rfl
 | n + 1,b=>by
  show ((List.range L.length).map fun i=>sumR L.length (tupN W L) n (b ++ [i])).sum = (L.map fun s=>natG W L n (selS L b ++ [s.1]) (prdW L b * s.2)).sum
  rw [← map_range_getD L ([],0)]
  refine congrArg List.sum (List.map_congr_left fun i _=>?_)
  rw [sumR_natG W L n (b ++ [i])]
  simp [selS,prdW]
theorem accN_full (W:List (List Int)→Bool) {L:List (List Int × Nat)} (hL:0 < L.length) (n:Nat):accN W L n (L.length ^ n) = natG W L n [] 1:=by
 unfold accN
 rw [sum_digs hL n (tupN W L),sumR_natG];rfl
theorem prdW_le {L:List (List Int × Nat)} {D:Nat} (h:∀ s ∈ L,s.2 ≤ D) (l:List Nat):prdW L l ≤ D ^ l.length:=by
 have key:∀ (l:List Nat) (a:Nat) (q:Nat),a ≤ D ^ q→l.foldl (fun a i=>a * (L.getD i ([],0)).2) a ≤ D ^ (q + l.length):=by
  intro l
  induction l with
  | nil=>intro a q h;exact h
  | cons i r ih=>
   intro a q ha
   rw [List.foldl_cons,List.length_cons,show q + (r.length + 1) = q + 1 + r.length by omega]
   refine ih _ _ ?_
   rw [Nat.pow_succ]
   refine Nat.mul_le_mul ha ?_
   rw [List.getD_eq_getElem?_getD]
   cases hi:L[i]? with
   | none=>exact Nat.zero_le _
   | some s=>exact h s (List.mem_of_getElem? hi)
 have:=key l 1 0 (by simp)
 rwa [Nat.zero_add] at this
theorem tupN_le {W:List (List Int)→Bool} {L:List (List Int × Nat)} {D:Nat} (h:∀ s ∈ L,s.2 ≤ D) (l:List Nat):tupN W L l ≤ D ^ l.length:=by
 unfold tupN;split
 ·exact prdW_le h l
 ·exact Nat.zero_le _
theorem accN_le {W:List (List Int)→Bool} {L:List (List Int × Nat)} {D n:Nat} (h:∀ s ∈ L,s.2 ≤ D):∀ j,accN W L n j ≤ j * D ^ n
 | 0=>by simp [accN_zero]
 | j + 1=>by
  rw [accN_succ,Nat.succ_mul]
  have h1:=accN_le h (W:=W) (n:=n) j
  have h2:=tupN_le (W:=W) h (digs L.length n j)
  rw [digs_len] at h2
  omega
open Go Go.RowKit
theorem wpIn_scope {F:Fence} {n:Nat} {P:Program} {Q:Exit→Act→World→Prop} {a:Act} {w:World} {c:Code} (h:c.wpIn F n P (Exit.noGoto Q) a w):(Code.scope c).wpIn F n P Q a w:=by
 intro b k cs hro hb hr
 have h0:(lone (b.atR a (.code (.scope c) :: k)) cs w).fenced P F:=fenced_calm hb hr rfl
 have s1:step P (lone (b.atR a (.code (.scope c) :: k)) cs w) = .next (lone (b.atR a (.code c :: .inScope c :: k)) cs w):=step_lone_go (by simp [stepG,stepG.exec,Frame.atR])
 have s2:∀ (a:Act) (w:World),step P (lone (b.atR a (.inScope c :: k)) cs w) = .next (lone (b.atR a k) cs w):=fun a w=>step_lone_go (by simp [stepG,stepG.exec,Frame.atR])
 obtain ⟨e,a₁,w₁,hq,harr⟩:=h b (.inScope c :: k) cs hro hb hr
 have hx:∀ id',exitTo id' (.inScope c :: k) = exitTo id' k:=fun id'=>by simp [exitTo]
 cases e with
 | normal=>exact ⟨.normal,a₁,w₁,hq,.head h0 s1 (StepsIn.trans harr (.one (fenced_calm hb hr rfl) (s2 a₁ w₁)))⟩
 | exit id'=>
  exact ⟨.exit id',a₁,w₁,hq,fun k' hk=>.head h0 s1 (harr.1 k' (by rw [hx];exact hk)),
    fun hr' hk=>let ⟨k₁,h1,h2⟩:=harr.2 hr' (by rw [hx];exact hk);⟨k₁,h1,.head h0 s1 h2⟩⟩
 | goto l=>exact hq.elim
 | ret=>exact ⟨_,a₁,w₁,hq,.of_steps (.one h0 s1) harr⟩
 | panic ch=>exact ⟨_,a₁,w₁,hq,.of_steps (.one h0 s1) harr⟩
 | outgrown=>exact ⟨_,a₁,w₁,hq,.of_steps (.one h0 s1) harr⟩
section
variable {P:Program} {E:Env P} {n:Sh} {X:Cx} {s:List K} {fr:Fr} {A:List Ch} {c:Code} {e:Exit}
theorem scp (h:TC E n ⟨Exit.noGoto (den P n.r X.Q s),X.w0,X.A0⟩ [] c fr A):TC E n X s (.scope c) fr A:=
 ⟨fun w hw=>⟨fun a ha=>wpIn_scope ((h.run w ⟨hw.sat,hw.mv⟩).run a ha)⟩⟩
theorem scx (he:∀ Q a w,Exit.noGoto Q e a w = Q e a w) (h:TX E n X s e fr A):TX E n ⟨Exit.noGoto (den P n.r X.Q s),X.w0,X.A0⟩ [] e fr A:=
 ⟨fun w hw=>⟨fun a ha=>(he _ a w).mpr ((h.run w ⟨hw.sat,hw.mv⟩).run a ha)⟩⟩
theorem lbl {l:Nat} (h:TX E n X s .normal fr A):TC E n X s (.label l) fr A:=⟨fun w hw=>⟨fun a ha=>wpIn_label ((h.run w hw).run a ha)⟩⟩
end
end Go.Art
namespace Go.Art
open Go Go.Proofs Go.RowKit
def tupsL (m n:Nat):List (List Int):=(List.range (m ^ n)).map fun j=>(digs m n j).map Int.ofNat
theorem tupsL_len (m n:Nat):(tupsL m n).length = m ^ n:=by simp [tupsL]
theorem tupsL_get {m n j:Nat} (h:j < m ^ n):(tupsL m n).getD j [] = (digs m n j).map Int.ofNat:=by simp [tupsL,List.getD_eq_getElem?_getD,h]
theorem digs_zero (m:Nat):∀ n,digs m n 0 = List.replicate n 0
 | 0=>rfl
 | n + 1=>by
  show digs m n (0 / m) ++ [0 % m] = _
  rw [Nat.zero_div,Nat.zero_mod,digs_zero m n,List.replicate_succ']
theorem digs_mul (m:Nat) (hm:0 < m) (n p:Nat):∀ q,digs m (n + q) (p * m ^ q) = digs m n p ++ List.replicate q 0
 | 0=>by simp
 | q + 1=>by
  show digs m (n + q) (p * m ^ (q + 1) / m) ++ [p * m ^ (q + 1) % m] = _
  rw [Nat.pow_succ,← Nat.mul_assoc,Nat.mul_div_cancel _ hm,Nat.mul_mod_left,digs_mul m hm n p q,List.append_assoc,← List.replicate_succ']
def curD (m n q p:Nat):List Int:=(digs m n p).map Int.ofNat ++ List.replicate q 0
theorem curD_all (m n j:Nat):curD m n 0 j = (digs m n j).map Int.ofNat:=by simp [curD]
theorem curD_len (m n q p:Nat):(curD m n q p).length = n + q:=by simp [curD,digs_len]
theorem curD_last (m n q p:Nat):(curD m (n + 1) q p).getD n 0 = ((p % m:Nat):Int):=by
 show (((digs m n (p / m) ++ [p % m]).map Int.ofNat) ++ List.replicate q 0).getD n 0 = _
 rw [List.getD_eq_getElem?_getD,List.map_append,List.append_assoc,List.getElem?_append_right (by simp [digs_len])]
 simp [digs_len]
theorem curD_set (m n q p:Nat) (x:Int):(curD m (n + 1) q p).set n x = (digs m n (p / m)).map Int.ofNat ++ x :: List.replicate q 0:=by
 show (((digs m n (p / m) ++ [p % m]).map Int.ofNat) ++ List.replicate q 0).set n x = _
 rw [List.map_append,List.append_assoc,List.set_append_right _ _ (by simp [digs_len])]
 simp [digs_len]
theorem curD_carry (m n q p:Nat):((curD m (n + 1) q p).set n (((p % m + 1:Nat)):Int)).set n 0 = curD m n (q + 1) (p / m):=by
 rw [List.set_set,curD_set];unfold curD;rw [List.replicate_succ]
theorem curD_next {m n q p:Nat} (h:p % m + 1 < m):(curD m (n + 1) q p).set n (((p % m + 1:Nat)):Int) = curD m (n + 1 + q) 0 ((p + 1) * m ^ q):=by
 have hm:0 < m:=by omega
 have h1:(p + 1) / m = p / m∧(p + 1) % m = p % m + 1:=by
  have hdm:=Nat.div_add_mod p m
  have e:p + 1 = m * (p / m) + (p % m + 1):=by omega
  rw [e,Nat.mul_add_div hm,Nat.mul_add_mod,Nat.mod_eq_of_lt h,Nat.div_eq_of_lt h]
  exact ⟨by rw [Nat.add_zero],rfl⟩
 rw [curD_set,curD_all,digs_mul m hm (n + 1) (p + 1) q]
 show _ = ((digs m n ((p + 1) / m) ++ [(p + 1) % m]) ++ List.replicate q 0).map Int.ofNat
 rw [h1.1,h1.2]
 simp
theorem digs_wrap {m n p:Nat} (hm:0 < m) (h:p % m + 1 = m):(p / m + 1) * m = p + 1:=by
 have:=Nat.div_add_mod p m
 rw [Nat.add_mul,Nat.mul_comm];omega
theorem next_lt {m n r q p:Nat} (hn:r + 1 + q = n) (hp:p < m ^ (r + 1)) (h:p % m + 1 < m):(p + 1) * m ^ q < m ^ n:=by
 have h1:p + 1 < m ^ (r + 1):=by
  rcases Nat.lt_or_ge (p + 1) (m ^ (r + 1)) with h2 | h2
  ·exact h2
  ·exfalso
   have e:p + 1 = m ^ (r + 1):=by omega
   have e2:(p + 1) % m = 0:=by rw [e,Nat.pow_succ,Nat.mul_mod_left]
   rw [Nat.add_mod,Nat.mod_eq_of_lt (show 1 < m by omega),Nat.mod_eq_of_lt h] at e2
   omega
 rw [← hn,Nat.pow_add]
 exact Nat.mul_lt_mul_of_pos_right h1 (Nat.pow_pos (by omega))
def lbd (C:List Ch):Ch where
 wr:=fun _=>False
 rd:=fun _=>False
 bd:=fun b=>fts C b
 P:=fun w=>∀ c ∈ C,c.P w
 loc:=fun h hb c hc=>c.loc (h c hc) fun b hf=>hb b (.inr (.inr ⟨c,hc,hf⟩))
 lt:=fun h hb=>by
  rcases hb with hb | hb | ⟨c,hc,hf⟩
  ·exact hb.elim
  ·exact hb.elim
  ·exact c.lt (h c hc) hf
instance (C:List Ch):Lent (lbd C):=⟨fun _=>⟨fun h=>h,fun h=>h⟩⟩
theorem has_mem {F:List Ch} {c:Ch} [h:Lent c] (hm:c ∈ F):Has F c:=⟨fun _ hw=>hw.h c hm,fun b=>(h.lent b).1,fun b=>(h.lent b).2,fun _ hb=>⟨c,hm,hb⟩⟩
theorem has_lbd {F C:List Ch} {c:Ch} [hl:Lent c] (h:Has F (lbd C)) (hc:c ∈ C):Has F c:=⟨fun w hw=>h.P w hw c hc,fun b=>(hl.lent b).1,fun b=>(hl.lent b).2,fun b hb=>h.ft b (.inr (.inr ⟨c,hc,hb⟩))⟩
theorem lbd_of {F C:List Ch} (h:∀ c ∈ C,Has F c):Has F (lbd C):=⟨fun w hw c hc=>(h c hc).P w hw,fun _ h=>h,fun _ h=>h,fun b hb=>by
 rcases hb with hb | hb | ⟨c,hc,hf⟩
 ·exact hb.elim
 ·exact hb.elim
 ·exact (h c hc).ft b hf⟩
theorem Ty.pre {P:Program} {l:Nat} {vs:List Value} {pre pre' A:List Ch} {R:Bool→List Ch→Prop} (h:Ty P l vs pre A R) (hp:∀ c ∈ pre,Has pre' c) (hl:∀ c ∈ pre',∀ b,¬ c.wr b∧¬ c.rd b):Ty P l vs pre' A R:=
 ⟨fun w hw=>h.run w (lend (hw.perm List.perm_append_comm) hp),hl⟩
structure SeqV (P:Program) (f:FuncId) (cap:Array Value) (pre:List Ch) (L:List (List Int)):Prop where
 run:∀ {α:Type} (V:Ch) [Lent V] (l:Nat) (J:α→Ch) (pl:α→Nat→Prop) (S:α→Prop) (a0:α),pl a0 0→(∀ a b,¬ (J a).bd b) →
  (∀ a i x,pl a i→i < L.length→Ty P l [x] [vw x (Is (L.getD i [])),V] [J a] fun ok B=>∃ a',B = [J a']∧((ok = true∧pl a' (i + 1))∨(ok = false∧S a'))) →
  Tr P f (yv l :: cap.toList) (V :: pre) [J a0] fun _ B=>∃ a,B = [J a]∧(pl a L.length∨S a)
structure TpG (α:Type) where
 j:Nat
 a:α
structure TqG where
 q:Nat
 p:Nat
attribute [local irreducible] Fit pt own ro vw mpc lpt vels rels mow lrc dfr
attribute [local irreducible] lmp lme mit velg relg bnd owl dfrl
theorem few_tr23 (m n:Nat) (hm:1 ≤ m∧m ≤ 4096) (hn:n ≤ 4096):Tr Tryz.prog 71 [I m,I n] [] [] fun u D=>(∃ b:Bool,u = .bool b∧(b = true ↔ m ^ n ≤ 4096))∧D = []:=by
 have hmono:=fun i (h:i ≤ n)=>Nat.pow_le_pow_right hm.1 h
 refine Tr.enter env _ Tryz.func71 (by kernel_rfl) rfl Tryz.ntmps71 rfl (by repeat (first | exact has00 | refine has01 ?_)) fun w0=>?_
 repeat' first|(refine wo ?_;first|refine oa ?_)|refine sq ?_|refine rg ?_|refine xc ?_|refine nl ?_|refine bk ?_
 refine TC.loop (ι:=Nat) (fun i=>[(7,I i),(5,I ((m ^ i:Nat):Int))]) (fun _=>[]) (fun i=>i ≤ n∧m ^ i ≤ 4096) (fun i=>n - i) 0 [0,1,6] ⟨Nat.zero_le _,by simp⟩ ?_ (hs:=by simp only [Nat.pow_zero];(repeat (refine Sub.cons rfl (by first | rfl | go_num) ?_));exact Sub.nil)
 rintro i ⟨hi,hi2⟩
 by_cases hlt:i < n
 ·have hp:((m ^ i:Nat):Int) * m = ((m ^ (i + 1):Nat):Int):=by rw [Nat.pow_succ];push_cast;rfl
  have hb:m ^ (i + 1) ≤ 4096 * 4096:=by rw [Nat.pow_succ];exact Nat.mul_le_mul hi2 hm.2
  have hge:=hmono (i + 1) hlt
  have h1:m = 1→m ^ n = 1:=fun h=>by rw [h,Nat.one_pow]
  have hlp:∀ q,q = i + 1→m ^ q = m ^ (i + 1):=fun q h=>by rw [h]
  obtain ⟨x,hx⟩ : ∃ x,x = m ^ i:=⟨_,rfl⟩
  obtain ⟨y,hy⟩ : ∃ y,y = m ^ (i + 1):=⟨_,rfl⟩
  obtain ⟨z,hz⟩ : ∃ z,z = m ^ n:=⟨_,rfl⟩
  rw [← hx] at hi2 hp ⊢
  rw [← hy] at hp hb hge
  rw [← hz] at hge h1 ⊢
  clear hlp hmono
  repeat' first|(refine aw (m:=(y:Int)) ?_ (h:=by rw [← hp];rfl))|(refine wo ?_;first|(refine ao ?_;first|refine aw ?_|refine oa ?_)|refine oa ?_)|(refine gc ?_;first|(refine ci (fun hB=>?_) (fun hB=>?_) <;> try (exfalso;omega)))|refine sq ?_|refine rg ?_|refine xc ?_|refine nl ?_|refine sk ?_|refine bk ?_|refine rt ?_|refine xb ?_
  ·exact r1 ⟨⟨false,rfl,by constructor <;> intro h;cases h;omega⟩,rfl⟩
  ·exact r1 ⟨⟨true,rfl,by constructor <;> intro h;have:=h1 (by omega);omega;rfl⟩,rfl⟩
  ·exact lp (i + 1) ⟨hlt,by rw [← hy];omega⟩ (hs:=by rw [← hy];(repeat (refine Sub.cons rfl (by first | rfl | go_num) ?_));exact Sub.nil)
 ·obtain rfl:i = n:=by omega
  repeat' first|(refine wo ?_;first|(refine ao ?_;first|refine oa ?_)|refine oa ?_)|(refine gc ?_;first|(refine ci (fun hB=>?_) (fun hB=>?_) <;> try (exfalso;omega)))|refine sq ?_|refine rg ?_|refine xc ?_|refine nl ?_|refine xe ?_|refine rt ?_
  exact r1 ⟨⟨true,rfl,by constructor <;> intro _;exact hi2;rfl⟩,rfl⟩
theorem tuples_tr (m n:Int):Tr Tryz.prog 74 [I m,I n] [] [] fun u D=>∃ pn pm,u = .func (.func 119) #[] #[ptr pn,ptr pm]∧D = [pt pn [I n] TLI,pt pm [I m] TLI]:=by
 refine Tr.enter env _ Tryz.func74 (by kernel_rfl) rfl Tryz.ntmps74 rfl (by repeat (first | exact has00 | refine has01 ?_)) fun w0=>?_
 repeat' first|refine bx1 fun b=>?_|(refine wo ?_;first|refine oa ?_)|refine sq ?_|refine rg ?_|refine xc ?_|refine nl ?_|refine rt ?_
 exact r1 ⟨_,_,rfl,rfl⟩
theorem tuples1_seq (m n:Nat) (pn pm:Nat) (hm:1 ≤ m) (hb:m ^ n ≤ 4096) (hn:n ≤ 4096) (hm2:m ≤ 4096):SeqV Tryz.prog 119 #[ptr pn,ptr pm] [lpt pn [I n] TLI,lpt pm [I m] TLI] (tupsL m n):=by
 refine ⟨fun {α} V hV l J pl S a0 h0 hnb hy=>?_⟩
 haveI:=hV
 haveI:∀ a,NoB (J a):=fun a=>⟨hnb a⟩
 rw [tupsL_len] at hy ⊢
 have hpos:0 < m ^ n:=Nat.pow_pos hm
 have hz:List.replicate n (0:Int) = curD m n 0 0:=by rw [curD_all,digs_zero];simp
 have hrz:∀ z:Int,z = 0→List.replicate (n:Int).toNat z = curD m n 0 0:=fun z h=>by rw [h,Int.toNat_natCast,hz]
 refine Tr.enter env _ Tryz.func119 (by kernel_rfl) rfl Tryz.ntmps119 rfl (by repeat (first | exact has00 | refine has01 ?_)) fun w0=>?_
 refine scp ?_
 repeat' first|refine lbl ?_|(refine mki (m:=(n:Int)) (fun v=>?_);rw [Int.toNat_natCast,hz])|(refine wo ?_;first|refine oa ?_|refine ldl ?_)|refine sq ?_|refine rg ?_|refine xc ?_|refine nl ?_|refine bk ?_
 refine TC.loop (ι:=TpG α) (fun _=>[]) (fun g=>[own TLI v (Is (curD m n 0 g.j)),J g.a]) (fun g=>g.j < m ^ n∧pl g.a g.j) (fun g=>m ^ n - g.j) ⟨0,a0⟩ [0,1,2,4] ⟨hpos,h0⟩ ?_
 rintro ⟨j,a⟩ ⟨hj,ha⟩
 dsimp only at hj ha ⊢
 have hyj:=fun x=>hy a j x ha hj
 rw [tupsL_get hj,← curD_all] at hyj
 repeat' first|(refine cy (hyj v) ?_ (hp:=has1 hasA (has1 (has_mem memA) has0));rintro ok _ ⟨a2,rfl,⟨rfl,h3⟩ | ⟨rfl,h3⟩⟩)|(refine wo ?_;first|(refine ao ?_;first|refine aw ?_)|refine oa ?_|refine ldl ?_)|(refine gc ?_;first|refine ct ?_|refine cf ?_)|refine sq ?_|refine rg ?_|refine xc ?_|refine nl ?_|refine sk ?_|refine bk ?_|refine xe ?_
 ·refine TC.loop (ι:=TqG) (fun g=>[(5,I ((n:Int) - 1 - (g.q:Int)))]) (fun g=>[own TLI v (Is (curD m (n - g.q) g.q g.p))]) (fun g=>g.q ≤ n∧(g.p + 1) * m ^ g.q = j + 1∧g.p < m ^ (n - g.q)) (fun g=>n - g.q) ⟨0,j⟩ [0,1,2,4] ⟨Nat.zero_le _,by simp,hj⟩ ?_ (hs:=by simp only [Int.natCast_zero,Int.sub_zero];(repeat (refine Sub.cons rfl (by first | rfl | go_num) ?_));exact Sub.nil)
  rintro ⟨q,p⟩ ⟨hq,hp1,hp2⟩
  dsimp only at hq hp1 hp2 ⊢
  clear hyj hy hz hrz
  by_cases hlt:q < n
  ·obtain ⟨r,hr⟩ : ∃ r,n - q = r + 1:=⟨n - q - 1,by omega⟩
   have hnr:r + 1 + q = n:=by omega
   rw [hr] at hp2 ⊢
   rw [show (n:Int) - 1 - (q:Int) = (r:Int) by omega]
   have hl:=curD_last m r q p
   have hcl:=curD_len m (r + 1) q p
   have hml:p % m < m:=Nat.mod_lt _ hm
   obtain ⟨L2,hL2⟩ : ∃ L2,(curD m (r + 1) q p).set r (((p % m + 1:Nat)):Int) = L2:=⟨_,rfl⟩
   have hL2l:L2.length = r + 1 + q:=by rw [← hL2,List.length_set];exact hcl
   have hL2g:L2.getD r 0 = (((p % m + 1:Nat)):Int):=by rw [← hL2,List.getD_eq_getElem?_getD,List.getElem?_set_self (by omega)];rfl
   have hnx:=fun h=>(hL2.symm.trans (curD_next (q:=q) h):L2 = curD m (r + 1 + q) 0 ((p + 1) * m ^ q))
   have hcr:=curD_carry m r q p
   rw [hL2] at hcr
   have hlt2:=fun h=>next_lt (q:=q) hnr hp2 h
   have hwr:=fun h=>digs_wrap (m:=m) (n:=n) (p:=p) hm h
   rw [hp1] at hnx hlt2
   have hpm:(p / m + 1) * m ^ (q + 1) = (p / m + 1) * m * m ^ q:=by rw [Nat.pow_succ,Nat.mul_comm (m ^ q) m,Nat.mul_assoc]
   have hdv:p / m < m ^ r:=Nat.div_lt_of_lt_mul (by rw [Nat.mul_comm,← Nat.pow_succ];exact hp2)
   generalize hC:curD m (r + 1) q p = C at *
   generalize hx:p % m = x at *
   clear hC
   repeat' first|refine lie hl ?_|(refine aw (m:=((x + 1:Nat):Int)) ?_)|(refine soi (l:=C) (j:=r) ?_;rw [hL2])|(refine qli (l:=L2) (j:=r) ?_;rw [hL2g])|(refine soi (l:=L2) (j:=r) ?_;rw [hcr])|refine qldl (cs:=[I m]) ?_|(refine wo ?_;first|(refine ao ?_;first|refine aw ?_|refine oa ?_)|refine oa ?_|refine ixmn ?_)|(refine gc ?_;first|refine ct ?_|(refine ci (fun hB=>?_) (fun hB=>?_) <;> try (exfalso;omega)))|refine sq ?_|refine rg ?_|refine xc ?_|refine nl ?_|refine sk ?_|refine bk ?_|refine xe ?_|refine xb ?_|refine rq ?_|refine nq ?_|(refine wq ?_;first|(refine qao ?_;first|refine qa ?_)|refine qa ?_|refine qixmn ?_)
   ·exact lp ⟨j + 1,a2⟩ ⟨hlt2 (by omega),h3⟩ (hf:=by dsimp only;rw [hnx (by omega),hnr];exact fitA)
   ·have hw2:=hwr (by omega)
    rw [hw2,hp1] at hpm
    exact lp ⟨q + 1,p / m⟩ ⟨hlt,hpm,by dsimp only;rw [show n - (q + 1) = r by omega];exact hdv⟩ (hs:=by dsimp only;rw [show (n:Int) - 1 - ((q + 1:Nat):Int) = (r:Int) - 1 by omega];(repeat (refine Sub.cons rfl (by first | rfl | go_num) ?_));exact Sub.nil) (hf:=by dsimp only;rw [show n - (q + 1) = r by omega];exact fitA)
  ·obtain rfl:q = n:=by omega
   rw [Nat.sub_self,Nat.pow_zero] at hp2
   obtain rfl:p = 0:=by omega
   rw [Nat.zero_add,Nat.one_mul] at hp1
   rw [show (q:Int) - 1 - (q:Int) = -1 by omega]
   repeat' first|(refine wo ?_;first|(refine ao ?_;first|refine oa ?_)|refine oa ?_)|(refine gc ?_;first|refine cf ?_)|refine sq ?_|refine rg ?_|refine xc ?_|refine nl ?_|refine xe ?_|refine rt ?_
   refine scx (X:=⟨_,_,_⟩) (n:=⟨_,_,_⟩) (e:=.ret) (fun _ _ _=>rfl) ?_
   exact r0 ⟨a2,rfl,.inl (by rw [hp1];exact h3)⟩
 ·refine scx (X:=⟨_,_,_⟩) (n:=⟨_,_,_⟩) (e:=.normal) (fun _ _ _=>rfl) ?_
  exact e0 ⟨a2,rfl,.inr h3⟩
end Go.Art
namespace Go.Art
open Go Go.Proofs Go.RowKit
attribute [local irreducible] Fit pt own ro vw mpc lpt vels rels mow lrc dfr
theorem nat_tr (v:Value) (l:List Nat) (h:Nat) (hd:Dg l) (hl:l.length + h ≤ 4398046511104):Tr Tryz.prog 202 [v,I h] [vw v (Us l)] [] fun u D=>u.oneCell' = true∧∃ m,D = [own T64 u (Us m)]∧Dg m∧nv m = 18446744073709551616 ^ h * nv l∧m.length ≤ l.length + h:=by
 by_cases h0:l = []
 ·subst h0
  refine Tr.enter env _ Tryz.func202 (by kernel_rfl) rfl Tryz.ntmps202 rfl (by repeat (first | exact has00 | refine has01 ?_)) fun w0=>?_
  repeat' first|refine ln (xs:=[]) ?_|(refine wo ?_;first|(refine ao ?_;first|refine oa ?_)|refine oa ?_)|(refine gc ?_;first|refine ct ?_)|refine sq ?_|refine rg ?_|refine xc ?_|refine nl ?_|refine rt ?_
  refine TX.im (own_nil T64 _) ?_
  exact r1 ⟨rfl,[],rfl,Dg.nil,by simp [nv],by simp⟩
 ·have hp:0 < l.length:=List.length_pos_iff.2 h0
  refine Tr.enter env _ Tryz.func202 (by kernel_rfl) rfl Tryz.ntmps202 rfl (by repeat (first | exact has00 | refine has01 ?_)) fun w0=>?_
  repeat' first|(refine mku fun o=>?_;rw [Int.toNat_natCast])|(refine apu (l:=List.replicate h 0) (news:=l) (hl:=by rw [List.length_replicate];omega) fun u=>?_;refine TO.one (v:=u) (xs:=Us (List.replicate h 0 ++ l)) fun hu=>?_)|(refine wo ?_;first|(refine ao ?_;first|refine oa ?_)|refine oa ?_|refine lnm ?_)|(refine gc ?_;first|(refine ci (fun hB=>?_) (fun hB=>?_) <;> try (exfalso;omega)))|refine sq ?_|refine rg ?_|refine xc ?_|refine nl ?_|refine sk ?_|refine rt ?_
  exact r1 ⟨hu,_,rfl,(Dg.rep h).app hd,by rw [nv_app,nv_rep,List.length_replicate,Nat.zero_add],by rw [List.length_append,List.length_replicate];omega⟩
def lessN (n a b:Nat):Nat→Nat
 | 0=>n
 | 1=>n - a
 | _=>n - a - b
def lessJ (n a b:Nat) (v:Value):Nat→List Ch
 | 0=>[]
 | i + 1=>[own T64 v (Us (dg (lessN n a b (i + 1))))]
theorem less_tr (n0 lv x1 x2:Value) (N a b:List Nat) (hN:Dg N) (ha:Dg a) (hb:Dg b) (lN:N.length ≤ 1099511627776) (la:a.length ≤ 1099511627776) (lb:b.length ≤ 1099511627776) (h0:n0.oneCell' = true) (hle:nv a + nv b ≤ nv N) :
  Tr Tryz.prog 201 [n0,lv] [vw lv [x1,x2],vw n0 (Us N),vw x1 (Us a),vw x2 (Us b)] [] fun u D=>u.oneCell' = true∧D = [own T64 u (Us (dg (nv N - nv a - nv b)))]:=by
 have s1:=fun v=>NSub_tr v x1 N a hN ha lN la (by omega)
 have l2:(dg (nv N - nv a)).length ≤ 1099511627776:=Nat.le_trans (dg_mono (Nat.sub_le _ _)) (Nat.le_trans (dg_len_le hN) lN)
 have s2:=fun v=>NSub_tr v x2 (dg (nv N - nv a)) b (Dg_dg _) hb l2 lb (by rw [nv_dg];omega)
 simp only [nv_dg] at s2
 have hl2:([x1,x2]:List Value).length = 2:=rfl
 refine Tr.enter env _ Tryz.func201 (by kernel_rfl) rfl Tryz.ntmps201 rfl (by repeat (first | exact has00 | refine has01 ?_)) fun w0=>?_
 repeat' first|(refine ln (xs:=[x1,x2]) ?_;rw [hl2])|(refine wo ?_;first|refine oa ?_)|refine sq ?_|refine rg ?_|refine xc ?_|refine nl ?_|refine bk ?_
 refine TC.loop (ι:=Nat × Value) (fun k=>[(9,I k.1),(0,k.2)]) (fun k=>lessJ (nv N) (nv a) (nv b) k.2 k.1) (fun k=>k.1 ≤ 2∧(k.1 = 0→k.2 = n0)∧k.2.oneCell' = true) (fun k=>2 - k.1) (0,n0) [7,8] ⟨Nat.zero_le _,fun _=>rfl,h0⟩ ?_
 rintro ⟨i,v⟩ ⟨h1,h2,h3⟩
 dsimp only at h1 h2 h3 ⊢
 have hi:i = 0∨i = 1∨i = 2:=by omega
 rcases hi with rfl | rfl | rfl
 ·obtain rfl:=h2 rfl
  refine TC.im (B:=[vw lv [x1,x2],vw v (Us N),vw x1 (Us a),vw x2 (Us b)]) (Im.refl _) ?_
  repeat' first|(refine gca ?_;first|(refine ca (s1 v) ?_;rintro _ _ ⟨u,rfl,hu,rfl⟩))|refine ixn (i:=0) (xs:=[x1,x2]) (hb:=by decide) ?_|refine le (j:=0) (xs:=[x1,x2]) (u:=x1) ?_|(refine wo ?_;first|(refine ao ?_;first|refine aw ?_|refine oa ?_)|refine oa ?_|refine ixn ?_)|(refine gc ?_;first|refine ct ?_)|refine sq ?_|refine rg ?_|refine xc ?_|refine nl ?_|refine sk ?_|refine bk ?_|refine xb ?_
  exact lp (1,u) ⟨Nat.le_succ 1,fun h=>absurd h (Nat.succ_ne_zero 0),hu⟩
 ·refine TC.im (B:=[own T64 v (Us (dg (nv N - nv a))),vw lv [x1,x2],vw n0 (Us N),vw x1 (Us a),vw x2 (Us b)]) (Im.refl _) ?_
  repeat' first|(refine gca ?_;first|(refine ca (s2 v) ?_;rintro _ _ ⟨u,rfl,hu,rfl⟩))|refine ixn (i:=1) (xs:=[x1,x2]) (hb:=by decide) ?_|refine le (j:=1) (xs:=[x1,x2]) (u:=x2) ?_|(refine wo ?_;first|(refine ao ?_;first|refine aw ?_|refine oa ?_)|refine oa ?_|refine ixn ?_)|(refine gc ?_;first|refine ct ?_)|refine sq ?_|refine rg ?_|refine xc ?_|refine nl ?_|refine sk ?_|refine bk ?_|refine xb ?_
  exact lp (2,u) ⟨Nat.le_refl 2,fun h=>absurd h (Nat.succ_ne_zero 1),hu⟩
 ·refine TC.im (B:=[own T64 v (Us (dg (nv N - nv a - nv b))),vw lv [x1,x2],vw n0 (Us N),vw x1 (Us a),vw x2 (Us b)]) (Im.refl _) ?_
  repeat' first|(refine wo ?_;first|(refine ao ?_;first|refine oa ?_)|refine oa ?_)|(refine gc ?_;first|refine cf ?_)|refine sq ?_|refine rg ?_|refine xc ?_|refine nl ?_|refine xe ?_|refine rt ?_
  exact r1 ⟨h3,rfl⟩
end Go.Art
namespace Go.Art
open Go Go.Proofs Go.RowKit
section
variable {P:Program} {E:Env P} {n:Sh} {X:Cx} {s:List K} {fr:Fr} {A A':List Ch} {ops:Array Oper} {rest:List Oper} {d:Nat} {ty t t' el:TypeId} {pos:String} {after:Array Edge} {x y:Operand} {p q hi lo:Int} {v z:Value} {k1:IntKind} {by_:Nat} {xs:List Value} {α:Type} {g:α→Value} {l:List α}
theorem qmnn (k:TQ E n X s ops rest ((d,I (min p q)) :: fr) A) (hx:ev fr x = some (I p):=by rfl) (hy:ev fr y = some (I q):=by rfl) (hd:Nat.blt d n.n = true:=by rfl):TQ E n X s ops (⟨some d,.call ⟨.builtin .min,#[x,y],#[t,t']⟩,ty,pos,after,none⟩ :: rest) fr A:=TQ.val (fun w _=>⟨fun a ha _ _ _ _=>by
 have e:(if q < p then q else p) = min p q:=by split <;> omega
 simp only [execOp,resolve]
 simp [ha.ev hx,ha.ev hy,invoke,builtin,Builtin.min_,Builtin.min2,← e]⟩) k hd
theorem qslh (k:TQ E n X s ops rest ((d,slSub v 0 hi.toNat) :: fr) A) (hx:ev fr x = some v:=by rfl) (hl:ev fr y = some (.int k1 hi):=by rfl) (hs:Has A (vw v (l.map g)):=by exact hasA) (hb:0 ≤ hi∧hi ≤ l.length:=by omega)
  (ht:lk E.und t = some (.slice el):=by rfl) (he:lk E.inf el = some (z,1,by_):=by rfl) (hd:Nat.blt d n.n = true:=by rfl):TQ E n X s ops (⟨some d,.slice t x none (some y) none,ty,pos,after,none⟩ :: rest) fr A:=
 TQ.val (fun _ h=>R_sliceHi ht he hx hl (has_sl h hs) (by simpa using hb)) k hd
theorem qsll (k:TQ E n X s ops rest ((d,slSub v lo.toNat l.length) :: fr) A) (hx:ev fr x = some v:=by rfl) (hl:ev fr y = some (.int k1 lo):=by rfl) (hs:Has A (vw v (l.map g)):=by exact hasA) (hb:0 ≤ lo∧lo ≤ l.length:=by omega)
  (ht:lk E.und t = some (.slice el):=by rfl) (he:lk E.inf el = some (z,1,by_):=by rfl) (hd:Nat.blt d n.n = true:=by rfl):TQ E n X s ops (⟨some d,.slice t x (some y) none none,ty,pos,after,none⟩ :: rest) fr A:=
 TQ.val (fun _ h=>by have:=R_sliceLo (n:=n) (ty:=ty) ht he hx hl (has_sl h hs) (by simpa using hb);rwa [List.length_map] at this) k hd
end
attribute [local irreducible] Fit pt own ro vw mpc lpt vels rels mow lrc dfr
theorem cut_tr (v:Value) (l:List Nat) (h c:Nat):Tr Tryz.prog 200 [v,ptr c] [vw v (Us l),lpt c [I h] TRi] [] fun u D=>u = tup2 (slSub v 0 (min h l.length)) (slSub v (min h l.length) l.length)∧D = []:=by
 have hm:(min (h:Int) l.length).toNat = min h l.length:=by omega
 rw [← hm]
 refine Tr.enter env _ Tryz.func200 (by kernel_rfl) rfl Tryz.ntmps200 rfl (by repeat (first | exact has00 | refine has01 ?_)) fun w0=>?_
 repeat' first|refine qmnn ?_|refine qslh (g:=Un) ?_|refine qsll (g:=Un) ?_|(refine wo ?_;first|refine oa ?_)|refine sq ?_|refine rg ?_|refine xc ?_|refine nl ?_|refine rt ?_|refine rq ?_|refine nq ?_|(refine wq ?_;first|refine qa ?_|refine qldl ?_|refine qlnm ?_)
 exact r2 ⟨rfl,rfl⟩
end Go.Art
namespace Go.Art
open Go Go.Proofs Go.RowKit
abbrev TMul:TypeId:=113
abbrev halF (c5 c7:Nat):Value:=.func (.func 199) #[] #[ptr c5,ptr c7]
theorem kara {a0 a1 b0 b1 p:Nat}:a0 * b0 + p * ((a0 + a1) * (b0 + b1) - a0 * b0 - a1 * b1) + p * p * (a1 * b1) = (a0 + p * a1) * (b0 + p * b1):=by
 have h:(a0 + a1) * (b0 + b1) - a0 * b0 - a1 * b1 = a0 * b1 + a1 * b0:=by
  rw [Nat.add_mul,Nat.mul_add,Nat.mul_add];omega
 rw [h];grind
theorem dg_mul_len {a b i j:Nat} (ha:(dg a).length ≤ i) (hb:(dg b).length ≤ j):(dg (a * b)).length ≤ i + j:=(dg_len _ _).2 (by
 rw [Nat.pow_add];exact Nat.mul_lt_mul'' ((dg_len _ _).1 ha) ((dg_len _ _).1 hb))
theorem dg_add_len {a b i:Nat} (ha:(dg a).length ≤ i) (hb:(dg b).length ≤ i):(dg (a + b)).length ≤ i + 1:=(dg_len _ _).2 (by
 have h1:=(dg_len _ _).1 ha
 have h2:=(dg_len _ _).1 hb
 rw [Nat.pow_succ];omega)
attribute [local irreducible] Fit pt own ro vw mpc lpt vels rels mow lrc dfr
set_option maxHeartbeats 2000000 in
theorem hal1_tr (c5 c7:Nat) (least:Int) (M:Nat):∀ (va vb:Value) (a b:List Nat),Dg a→Dg b→a.length ≤ 68719476736→b.length ≤ 68719476736→max (dg (nv a)).length (dg (nv b)).length ≤ M →
  Tr Tryz.prog 199 [va,vb,ptr c5,ptr c7] [vw va (Us a),vw vb (Us b),lpt c5 [I least] TRi,lpt c7 [halF c5 c7] TMul] [] fun u D=>u.oneCell' = true∧D = [own T64 u (Us (dg (nv a * nv b)))]:=by
 induction M using Nat.strongRecOn with
 | _ M ih=>
  intro va vb a b ha hb hla hlb hM
  have hal:=dg_len_le ha
  have hbl:=dg_len_le hb
  have hTa:=Trim_tr va a ha (by omega)
  have hTb:=Trim_tr vb b hb (by omega)
  obtain ⟨na,hna⟩ : ∃ na,na = nv a:=⟨_,rfl⟩
  obtain ⟨nb,hnb⟩ : ∃ nb,nb = nv b:=⟨_,rfl⟩
  rw [← hna] at hal hM hTa ⊢
  rw [← hnb] at hbl hM hTb ⊢
  obtain ⟨x,hx⟩ : ∃ x,x = dg na:=⟨_,rfl⟩
  obtain ⟨y,hy⟩ : ∃ y,y = dg nb:=⟨_,rfl⟩
  have hxn:nv x = na:=by rw [hx,nv_dg]
  have hyn:nv y = nb:=by rw [hy,nv_dg]
  have hxd:Dg x:=by rw [hx];exact Dg_dg _
  have hyd:Dg y:=by rw [hy];exact Dg_dg _
  rw [← hx] at hal hM hTa
  rw [← hy] at hbl hM hTb
  have hSc:=fun u1 u2=>School_tr u1 u2 x y hxd hyd (by omega) (by omega)
  rw [hxn,hyn] at hSc
  clear hx hy hna hnb
  refine Tr.enter env _ Tryz.func199 (by kernel_rfl) rfl Tryz.ntmps199 rfl (by repeat (first | exact has00 | refine has01 ?_)) fun w0=>?_
  by_cases hs:min (x.length:Int) y.length < max least 4
  ·repeat' first|(refine gca ?_;first|(refine ca hTa ?_;rintro u1 _ ⟨hu1,rfl⟩)|(refine ca hTb ?_;rintro u2 _ ⟨hu2,rfl⟩)|(refine ca (hSc u1 u2) ?_;rintro u _ ⟨hu,rfl⟩))|refine mnn ?_|refine mxx ?_|(refine wo ?_;first|(refine ao ?_;first|refine oa ?_)|refine oa ?_|refine ldl ?_|refine lnm ?_)|(refine gc ?_;first|(refine ci (fun hB=>?_) (fun hB=>?_) <;> try (exfalso;omega)))|refine sq ?_|refine rg ?_|refine xc ?_|refine nl ?_|refine rt ?_
   exact r1 ⟨hu,rfl⟩
  ·obtain ⟨h,hh⟩ : ∃ h:Nat,(max (x.length:Int) y.length + 1) / 2 = h:=⟨((max (x.length:Int) y.length + 1) / 2).toNat,by omega⟩
   obtain ⟨k1,hk1e⟩ : ∃ k1,k1 = min h x.length:=⟨_,rfl⟩
   obtain ⟨k2,hk2e⟩ : ∃ k2,k2 = min h y.length:=⟨_,rfl⟩
   have hc1:=fun u1 c=>cut_tr u1 x h c
   have hc2:=fun u2 c=>cut_tr u2 y h c
   simp only [← hk1e] at hc1
   simp only [← hk2e] at hc2
   have hk1:k1 ≤ x.length:=by omega
   have hk2:k2 ≤ y.length:=by omega
   have hb4:4 ≤ x.length∧4 ≤ y.length:=by omega
   have hhM:h + 1 < M∧h ≤ 68719476736:=by omega
   have t1l:(x.take k1).length ≤ h:=by rw [List.length_take];omega
   have t2l:(y.take k2).length ≤ h:=by rw [List.length_take];omega
   have d1l:(x.drop k1).length ≤ h:=by rw [List.length_drop];omega
   have d2l:(y.drop k2).length ≤ h:=by rw [List.length_drop];omega
   have e0:=Nat.le_trans (dg_len_le (hxd.take k1)) t1l
   have e1:=Nat.le_trans (dg_len_le (hxd.drop k1)) d1l
   have e2:=Nat.le_trans (dg_len_le (hyd.take k2)) t2l
   have e3:=Nat.le_trans (dg_len_le (hyd.drop k2)) d2l
   have cx:nv x = nv (x.take k1) + 18446744073709551616 ^ h * nv (x.drop k1):=by
    rcases Nat.lt_or_ge x.length h with h0 | h0
    ·rw [List.take_of_length_le (by omega),List.drop_eq_nil_of_le (by omega)];simp [nv]
    ·rw [show k1 = h by omega];exact nv_cut x h
   have cy:nv y = nv (y.take k2) + 18446744073709551616 ^ h * nv (y.drop k2):=by
    rcases Nat.lt_or_ge y.length h with h0 | h0
    ·rw [List.take_of_length_le (by omega),List.drop_eq_nil_of_le (by omega)];simp [nv]
    ·rw [show k2 = h by omega];exact nv_cut y h
   have ihL:=fun u1 u2=>ih h (by omega) (slSub u1 0 k1) (slSub u2 0 k2) (x.take k1) (y.take k2) (hxd.take _) (hyd.take _) (by omega) (by omega) (by omega)
   have ihH:=fun u1 u2=>ih h (by omega) (slSub u1 k1 x.length) (slSub u2 k2 y.length) (x.drop k1) (y.drop k2) (hxd.drop _) (hyd.drop _) (by omega) (by omega) (by omega)
   have adA:=fun u1=>NAdd_tr (slSub u1 0 k1) (slSub u1 k1 x.length) (x.take k1) (x.drop k1) (hxd.take _) (hxd.drop _) (by omega) (by omega)
   have adB:=fun u2=>NAdd_tr (slSub u2 0 k2) (slSub u2 k2 y.length) (y.take k2) (y.drop k2) (hyd.take _) (hyd.drop _) (by omega) (by omega)
   obtain ⟨a0,ha0⟩ : ∃ a0,a0 = nv (x.take k1):=⟨_,rfl⟩
   obtain ⟨a1,ha1⟩ : ∃ a1,a1 = nv (x.drop k1):=⟨_,rfl⟩
   obtain ⟨b0,hb0⟩ : ∃ b0,b0 = nv (y.take k2):=⟨_,rfl⟩
   obtain ⟨b1,hb1⟩ : ∃ b1,b1 = nv (y.drop k2):=⟨_,rfl⟩
   simp only [← ha0,← ha1,← hb0,← hb1] at ihL ihH adA adB cx cy e0 e1 e2 e3
   have sA:=dg_add_len e0 e1
   have sB:=dg_add_len e2 e3
   have ihM:=fun sa sb=>ih (h + 1) (by omega) sa sb (dg (a0 + a1)) (dg (b0 + b1)) (Dg_dg _) (Dg_dg _) (by omega) (by omega) (by rw [nv_dg,nv_dg];omega)
   simp only [nv_dg] at ihM
   have lL:=dg_mul_len e0 e2
   have lH:=dg_mul_len e1 e3
   have lP:=dg_mul_len sA sB
   have hle:a0 * b0 + a1 * b1 ≤ (a0 + a1) * (b0 + b1):=by rw [Nat.add_mul,Nat.mul_add,Nat.mul_add];omega
   have hK:=kara (a0:=a0) (a1:=a1) (b0:=b0) (b1:=b1) (p:=18446744073709551616 ^ h)
   rw [← cx,← cy,hxn,hyn] at hK
   obtain ⟨L,hL⟩ : ∃ L,L = a0 * b0:=⟨_,rfl⟩
   obtain ⟨H,hH⟩ : ∃ H,H = a1 * b1:=⟨_,rfl⟩
   obtain ⟨Q,hQ⟩ : ∃ Q,Q = (a0 + a1) * (b0 + b1):=⟨_,rfl⟩
   simp only [← hL,← hH,← hQ] at ihL ihH ihM lL lH lP hle hK
   have lsM:=fun ml lv lw hg hml=>less_tr ml lv lw hg (dg Q) (dg L) (dg H) (Dg_dg _) (Dg_dg _) (Dg_dg _) (by omega) (by omega) (by omega) hml (by rw [nv_dg,nv_dg,nv_dg];exact hle)
   simp only [nv_dg] at lsM
   have lM:(dg (Q - L - H)).length ≤ h + 1 + (h + 1):=Nat.le_trans (dg_mono (Nat.le_trans (Nat.sub_le _ _) (Nat.sub_le _ _))) lP
   obtain ⟨Md,hMd⟩ : ∃ Md,Md = Q - L - H:=⟨_,rfl⟩
   simp only [← hMd] at lsM lM hK
   have atM:=fun md=>nat_tr md (dg Md) h (Dg_dg _) (by omega)
   have atH:=fun hg=>nat_tr hg (dg H) (2 * h) (Dg_dg _) (by omega)
   simp only [nv_dg] at atM atH
   have lsum:∀ m1:List Nat,nv m1 = 18446744073709551616 ^ h * Md→(dg (nv (dg L) + nv m1)).length ≤ 1099511627776:=fun m1 hm1=>by
    refine Nat.le_trans (dg_add_len (i:=3 * h + 3) (by rw [nv_dg];omega) ?_) (by omega)
    rw [hm1]
    refine Nat.le_trans (dg_mul_len (i:=h + 1) (j:=h + 1 + (h + 1)) ((dg_len _ _).2 (Nat.pow_lt_pow_right (by decide) (by omega))) lM) (by omega)
   have hfin:∀ m1 m3:List Nat,nv m1 = 18446744073709551616 ^ h * Md→nv m3 = 18446744073709551616 ^ (2 * h) * H→nv (dg (nv (dg L) + nv m1)) + nv m3 = na * nb:=fun m1 m3 g1 g3=>by
    rw [nv_dg,nv_dg,g1,g3,← hK,Nat.two_mul,Nat.pow_add]
   clear hK hle hMd hQ hH hL cx cy ha0 ha1 hb0 hb1 ih sA sB e0 e1 e2 e3 hxn hyn t1l t2l d1l d2l hal hbl hk1e hk2e
   repeat' first|(refine gca ?_;first|(refine ca hTa ?_;rintro u1 _ ⟨hu1,rfl⟩)|(refine ca hTb ?_;rintro u2 _ ⟨hu2,rfl⟩))|refine mnn ?_|refine mxx ?_|(refine adiv ?_;rw [hh])|(refine al fun c=>?_)|(refine cav (cap:=#[ptr c]) (vs:=[u1]) (hc1 u1 c) ?_;rintro _ _ ⟨rfl,rfl⟩)|(refine cav (cap:=#[ptr c]) (vs:=[u2]) (hc2 u2 c) ?_;rintro _ _ ⟨rfl,rfl⟩)|refine rs (id:=8) (fun w=>w.heap[c7]? = some (.cells [halF c5 c7].toArray TMul (0,0))) ?_ (fun w hw=>lpt_at memA hw)|(refine wo ?_;first|(refine ao ?_;first|refine aw ?_|refine oa ?_)|refine oa ?_|refine ldl ?_|refine lnm ?_|refine sr ?_)|(refine gc ?_;first|(refine ci (fun hB=>?_) (fun hB=>?_) <;> try (exfalso;omega)))|refine sq ?_|refine rg ?_|refine xc ?_|refine nl ?_|refine sk ?_
   refine tkl 0 (cs:=[halF c5 c7]) (fun w h=>h) ?_
   refine tka 1 ?_
   refine tka 2 ?_
   refine tkl 4 (cs:=[halF c5 c7]) (fun w h=>h) ?_
   refine tka 5 ?_
   refine tka 6 ?_
   refine t1 3 ?_
   refine cav (cap:=#[ptr c5,ptr c7]) (vs:=[slSub u1 0 k1,slSub u2 0 k2]) (ihL u1 u2) ?_ (hp:=has1 (has_take (has_own memA) hk1) (has1 (has_take (has_own memA) hk2) (has1 (has_lpt memA) (has1 (has_lpt memA) has0))))
   rintro lw _ ⟨hlw,rfl⟩
   refine nl ?_
   refine te (fun w hw=>lpt_at memA hw) ?_
   refine t1 7 ?_
   refine cav (cap:=#[ptr c5,ptr c7]) (vs:=[slSub u1 k1 x.length,slSub u2 k2 y.length]) (ihH u1 u2) ?_ (hp:=has1 (has_drop (has_own memA) hk1) (has1 (has_drop (has_own memA) hk2) (has1 (has_lpt memA) (has1 (has_lpt memA) has0))))
   rintro hg _ ⟨hhg,rfl⟩
   refine nl ?_
   refine te (fun w hw=>lpt_at memA hw) ?_
   refine tka 8 ?_
   refine tka 9 ?_
   refine t0 ?_
   refine xc ?_
   repeat' first|refine sq_cutX (a:=.region 9 _ _) (ι:=Value) (fun md=>md.oneCell' = true) (fun md=>[(7,ptr c),(13,lw),(14,hg),(15,md)]) (fun md=>[own T64 md (Us (dg Md)),own T64 hg (Us (dg H)),own T64 lw (Us (dg L)),pt c [I h] TRi]) ?_ (fun kb=>?_)|(refine wo ?_;first|(refine ao ?_;first|refine aw ?_|refine aw6 ?_|refine oa ?_|refine adiv ?_|refine amod ?_|refine shr1 ?_|refine shr ?_|refine umod ?_|refine isl ?_|refine ipe ?_|refine ipn ?_|refine ibe ?_)|refine acw ?_|refine ucv ?_|refine anw ?_|refine oa ?_|refine ld ?_|refine ldl ?_|refine lnm ?_|refine ixmn ?_|refine ixm ?_|refine li ?_|refine lb ?_|refine lv ?_|refine ln ?_|refine ixn ?_|refine ix ?_|refine le ?_|refine sr ?_|refine soi ?_|refine sob ?_|refine scm ?_|refine sclm ?_|refine schm ?_|refine gy ?_|refine gn ?_|refine gnn ?_|refine gu ?_|(refine gsi (fun hB=>?_) (fun hB=>?_) <;> try (exfalso;omega))|(refine gsn (fun hB=>?_) (fun hB=>?_) <;> try (exfalso;omega))|(refine gs (fun hB=>?_) (fun hB=>?_) <;> try (exfalso;omega)))|(refine gc ?_;first|refine ct ?_|refine cf ?_|(refine ci (fun hB=>?_) (fun hB=>?_) <;> try (exfalso;omega))|(refine cn (fun hB=>?_) (fun hB=>?_) <;> try (exfalso;omega))|(refine cb (fun hB=>?_) (fun hB=>?_) <;> try (exfalso;omega)))|refine sq ?_|refine rg ?_|refine xc ?_|refine nl ?_|refine sk ?_|refine bk ?_|refine xe ?_|refine rt ?_|refine xb ?_
   ·intro md hmd
    repeat' first|refine rs (id:=10) (fun w=>w.heap[c]? = some (.cells [I h].toArray TRi (0,0))) ?_ (fun w hw=>pt_at memA hw)|refine sq ?_
    refine tka 0 ?_
    refine tka 1 ?_
    refine tkl 2 (cs:=[I h]) (fun w h=>h) ?_
    refine tka 5 ?_
    refine tkl 6 (cs:=[I h]) (fun w h=>h) ?_
    refine tkw 7 (((2 * h:Nat)):Int) ?_
    refine t1 3 ?_
    refine ca (atM md) ?_
    rintro z1 _ ⟨hz1,m1,rfl,dm1,nm1,lm1⟩
    refine nl ?_
    refine te (fun w hw=>pt_at memA hw) ?_
    refine t1 4 ?_
    refine ca (NAdd_tr lw z1 (dg L) m1 (Dg_dg _) dm1 (by omega) (by omega)) ?_
    rintro z2 _ ⟨hz2,rfl⟩
    refine nl ?_
    refine te (fun w hw=>pt_at memA hw) ?_
    refine t1 8 ?_
    refine ca (atH hg) ?_
    rintro z3 _ ⟨hz3,m3,rfl,dm3,nm3,lm3⟩
    refine nl ?_
    refine te (fun w hw=>pt_at memA hw) ?_
    refine t1 9 ?_
    refine ca (NAdd_tr z2 z3 (dg (nv (dg L) + nv m1)) m3 (Dg_dg _) dm3 (lsum m1 nm1) (by omega)) ?_
    rintro z4 _ ⟨hz4,rfl⟩
    refine nl ?_
    refine te (fun w hw=>pt_at memA hw) ?_
    refine tka 10 ?_
    refine t0 ?_
    skip
    rw [hfin m1 m3 nm1 nm3]
    repeat' first|refine xc ?_|refine rt ?_
    exact r1 ⟨hz4,rfl⟩
   ·repeat' first|refine rs (id:=9) (fun w=>w.heap[c7]? = some (.cells [halF c5 c7].toArray TMul (0,0))) ?_ (fun w hw=>lpt_at memA hw)|(refine wo ?_;first|(refine ao ?_;first|refine aw ?_|refine aw6 ?_|refine oa ?_|refine adiv ?_|refine amod ?_|refine shr1 ?_|refine shr ?_|refine umod ?_|refine isl ?_|refine ipe ?_|refine ipn ?_|refine ibe ?_)|refine acw ?_|refine ucv ?_|refine anw ?_|refine oa ?_|refine ld ?_|refine ldl ?_|refine lnm ?_|refine ixmn ?_|refine ixm ?_|refine li ?_|refine lb ?_|refine lv ?_|refine ln ?_|refine ixn ?_|refine ix ?_|refine le ?_|refine sr ?_|refine soi ?_|refine sob ?_|refine scm ?_|refine sclm ?_|refine schm ?_|refine gy ?_|refine gn ?_|refine gnn ?_|refine gu ?_|(refine gsi (fun hB=>?_) (fun hB=>?_) <;> try (exfalso;omega))|(refine gsn (fun hB=>?_) (fun hB=>?_) <;> try (exfalso;omega))|(refine gs (fun hB=>?_) (fun hB=>?_) <;> try (exfalso;omega)))|(refine gc ?_;first|refine ct ?_|refine cf ?_|(refine ci (fun hB=>?_) (fun hB=>?_) <;> try (exfalso;omega))|(refine cn (fun hB=>?_) (fun hB=>?_) <;> try (exfalso;omega))|(refine cb (fun hB=>?_) (fun hB=>?_) <;> try (exfalso;omega)))|refine sq ?_|refine rg ?_|refine xc ?_|refine nl ?_|refine sk ?_|refine bk ?_|refine xe ?_|refine rt ?_|refine xb ?_
    refine tkl 0 (cs:=[halF c5 c7]) (fun w h=>h) ?_
    refine tka 1 ?_
    refine tka 2 ?_
    refine tka 4 ?_
    refine tka 5 ?_
    refine tka 8 ?_
    refine tka 9 ?_
    refine t2 3 10 ?_ ?_
    ·refine ca (adA u1) ?_ (hp:=has1 (has_take (has_own memA) hk1) (has1 (has_drop (has_own memA) hk1) has0))
     rintro sa _ ⟨hsa,rfl⟩
     refine nl ?_
     refine te (fun w hw=>lpt_at memA hw) ?_
     refine t2 6 10 ?_ ?_
     ·refine ca (adB u2) ?_ (hp:=has1 (has_take (has_own memA) hk2) (has1 (has_drop (has_own memA) hk2) has0))
      rintro sb _ ⟨hsb,rfl⟩
      refine nl ?_
      refine te (fun w hw=>lpt_at memA hw) ?_
      refine t2 7 10 ?_ ?_
      ·refine cav (cap:=#[ptr c5,ptr c7]) (vs:=[sa,sb]) (ihM sa sb) ?_
       rintro ml _ ⟨hml,rfl⟩
       refine nl ?_
       refine te (fun w hw=>lpt_at memA hw) ?_
       refine t1 10 ?_
       refine sli (vs:=[lw,hg]) (fun lv=>?_) (h1:=one_cons hlw (one_cons hhg one_nil))
       refine nl ?_
       refine te (fun w hw=>lpt_at memA hw) ?_
       refine t1 11 ?_
       refine ca (lsM ml lv lw hg hml) ?_
       rintro md _ ⟨hmd,rfl⟩
       refine nl ?_
       refine te (fun w hw=>lpt_at memA hw) ?_
       refine tka 12 ?_
       refine t0 ?_
       refine xc ?_
       exact kb md hmd _ _ (by (repeat (refine Sub.cons rfl (by first | rfl | go_num) ?_));exact Sub.nil) fitA
      ·refine sli (vs:=[lw,hg]) (fun lv=>?_) (h1:=one_cons hlw (one_cons hhg one_nil))
       refine nl ?_
       refine te (fun w hw=>lpt_at memA hw) ?_
       refine t1 7 ?_
       refine cav (cap:=#[ptr c5,ptr c7]) (vs:=[sa,sb]) (ihM sa sb) ?_
       rintro ml _ ⟨hml,rfl⟩
       refine nl ?_
       refine te (fun w hw=>lpt_at memA hw) ?_
       refine t1 11 ?_
       refine ca (lsM ml lv lw hg hml) ?_
       rintro md _ ⟨hmd,rfl⟩
       refine nl ?_
       refine te (fun w hw=>lpt_at memA hw) ?_
       refine tka 12 ?_
       refine t0 ?_
       refine xc ?_
       exact kb md hmd _ _ (by (repeat (refine Sub.cons rfl (by first | rfl | go_num) ?_));exact Sub.nil) fitA
     ·refine sli (vs:=[lw,hg]) (fun lv=>?_) (h1:=one_cons hlw (one_cons hhg one_nil))
      refine nl ?_
      refine te (fun w hw=>lpt_at memA hw) ?_
      refine t1 6 ?_
      refine ca (adB u2) ?_ (hp:=has1 (has_take (has_own memA) hk2) (has1 (has_drop (has_own memA) hk2) has0))
      rintro sb _ ⟨hsb,rfl⟩
      refine nl ?_
      refine te (fun w hw=>lpt_at memA hw) ?_
      refine t1 7 ?_
      refine cav (cap:=#[ptr c5,ptr c7]) (vs:=[sa,sb]) (ihM sa sb) ?_
      rintro ml _ ⟨hml,rfl⟩
      refine nl ?_
      refine te (fun w hw=>lpt_at memA hw) ?_
      refine t1 11 ?_
      refine ca (lsM ml lv lw hg hml) ?_
      rintro md _ ⟨hmd,rfl⟩
      refine nl ?_
      refine te (fun w hw=>lpt_at memA hw) ?_
      refine tka 12 ?_
      refine t0 ?_
      refine xc ?_
      exact kb md hmd _ _ (by (repeat (refine Sub.cons rfl (by first | rfl | go_num) ?_));exact Sub.nil) fitA
    ·refine sli (vs:=[lw,hg]) (fun lv=>?_) (h1:=one_cons hlw (one_cons hhg one_nil))
     refine nl ?_
     refine te (fun w hw=>lpt_at memA hw) ?_
     refine t1 3 ?_
     refine ca (adA u1) ?_ (hp:=has1 (has_take (has_own memA) hk1) (has1 (has_drop (has_own memA) hk1) has0))
     rintro sa _ ⟨hsa,rfl⟩
     refine nl ?_
     refine te (fun w hw=>lpt_at memA hw) ?_
     refine t1 6 ?_
     refine ca (adB u2) ?_ (hp:=has1 (has_take (has_own memA) hk2) (has1 (has_drop (has_own memA) hk2) has0))
     rintro sb _ ⟨hsb,rfl⟩
     refine nl ?_
     refine te (fun w hw=>lpt_at memA hw) ?_
     refine t1 7 ?_
     refine cav (cap:=#[ptr c5,ptr c7]) (vs:=[sa,sb]) (ihM sa sb) ?_
     rintro ml _ ⟨hml,rfl⟩
     refine nl ?_
     refine te (fun w hw=>lpt_at memA hw) ?_
     refine t1 11 ?_
     refine ca (lsM ml lv lw hg hml) ?_
     rintro md _ ⟨hmd,rfl⟩
     refine nl ?_
     refine te (fun w hw=>lpt_at memA hw) ?_
     refine tka 12 ?_
     refine t0 ?_
     refine xc ?_
     exact kb md hmd _ _ (by (repeat (refine Sub.cons rfl (by first | rfl | go_num) ?_));exact Sub.nil) fitA
end Go.Art
namespace Go.Art
open Go Go.Proofs Go.RowKit
attribute [local irreducible] Fit pt own ro vw mpc lpt vels rels mow lrc dfr
theorem halves_tr (va vb:Value) (a b:List Nat) (least:Int) (ha:Dg a) (hb:Dg b) (hla:a.length ≤ 68719476736) (hlb:b.length ≤ 68719476736):Tr Tryz.prog 163 [va,vb,I least] [vw va (Us a),vw vb (Us b)] [] fun u D=>u.oneCell' = true∧D = [own T64 u (Us (dg (nv a * nv b)))]:=by
 have hC:=fun c5 c7=>hal1_tr c5 c7 least (max (dg (nv a)).length (dg (nv b)).length) va vb a b ha hb hla hlb (Nat.le_refl _)
 obtain ⟨m,hm⟩ : ∃ m,m = nv a * nv b:=⟨_,rfl⟩
 simp only [← hm] at hC
 rw [← hm]
 refine Tr.enter env _ Tryz.func163 (by kernel_rfl) rfl Tryz.ntmps163 rfl (by repeat (first | exact has00 | refine has01 ?_)) fun w0=>?_
 repeat' first|refine bx1 fun c5=>?_|refine al fun c7=>?_|(refine wo ?_;first|refine oa ?_|refine ld ?_|refine sr ?_)|refine sq ?_|refine rg ?_|refine xc ?_|refine nl ?_
 repeat' first|(refine cav (cap:=#[ptr c5,ptr c7]) (vs:=[va,vb]) (hC c5 c7) ?_;rintro u _ ⟨hu,rfl⟩)|(refine wo ?_;first|refine oa ?_)|refine xc ?_|refine nl ?_|refine rt ?_
 exact r1 ⟨hu,rfl⟩
theorem NMul_tr (va vb:Value) (a b:List Nat) (ha:Dg a) (hb:Dg b) (hla:a.length ≤ 68719476736) (hlb:b.length ≤ 68719476736):Tr Tryz.prog 132 [va,vb] [vw va (Us a),vw vb (Us b)] [] fun u D=>u.oneCell' = true∧D = [own T64 u (Us (dg (nv a * nv b)))]:=by
 refine Tr.enter env _ Tryz.func132 (by kernel_rfl) rfl Tryz.ntmps132 rfl (by repeat (first | exact has00 | refine has01 ?_)) fun w0=>?_
 repeat' first|(refine gca ?_;first|(refine ca (halves_tr va vb a b 32 ha hb hla hlb) ?_;rintro u _ ⟨hu,rfl⟩))|(refine wo ?_;first|refine oa ?_)|refine sq ?_|refine rg ?_|refine xc ?_|refine nl ?_|refine rt ?_
 exact r1 ⟨hu,rfl⟩
end Go.Art
namespace Go.Art
open Go Go.Proofs Go.RowKit
theorem sg_mul (z1 z2:Int):sg (!(decide (z1 < 0) == decide (z2 < 0))) (z1.natAbs * z2.natAbs) = z1 * z2:=by
 have h1:(z1 = z1.natAbs∧0 ≤ z1)∨(z1 = -(z1.natAbs:Int)∧z1 < 0):=by omega
 have h2:(z2 = z2.natAbs∧0 ≤ z2)∨(z2 = -(z2.natAbs:Int)∧z2 < 0):=by omega
 generalize z1.natAbs = a at *
 generalize z2.natAbs = b at *
 unfold sg
 rcases h1 with ⟨e1,g1⟩ | ⟨e1,g1⟩ <;> rcases h2 with ⟨e2,g2⟩ | ⟨e2,g2⟩
 ·simp only [show decide (z1 < 0) = false from decide_eq_false (by omega),show decide (z2 < 0) = false from decide_eq_false (by omega)]
  rw [e1,e2];simp
 ·simp only [show decide (z1 < 0) = false from decide_eq_false (by omega),show decide (z2 < 0) = true from decide_eq_true g2]
  rw [e1,e2];simp [Int.mul_neg]
 ·simp only [show decide (z1 < 0) = true from decide_eq_true g1,show decide (z2 < 0) = false from decide_eq_false (by omega)]
  rw [e1,e2];simp [Int.neg_mul]
 ·simp only [show decide (z1 < 0) = true from decide_eq_true g1,show decide (z2 < 0) = true from decide_eq_true g2]
  rw [e1,e2];simp [Int.neg_mul_neg]
theorem dz_mul {z1 z2:Int} {B:Nat} (h1:(dz z1).length ≤ B) (h2:(dz z2).length ≤ B):(dz (z1 * z2)).length ≤ 2 * B:=by
 unfold dz at *
 rw [Int.natAbs_mul]
 exact Nat.le_trans (dg_mul_len h1 h2) (by omega)
attribute [local irreducible] Fit pt own ro vw mpc lpt vels rels mow lrc dfr
theorem IMulF_tr (b1 b2:Bool) (v1 v2:Value) (l1 l2:List Nat) (d1:Dg l1) (d2:Dg l2) (h1:l1.length ≤ 34359738368) (h2:l2.length ≤ 34359738368) :
  Tr Tryz.prog 131 [.agg #[.bool b1,v1],.agg #[.bool b2,v2]] [vw v1 (Us l1),vw v2 (Us l2)] [] (IR (sg (!(b1 == b2)) (nv l1 * nv l2))):=by
 have hM:=NMul_tr v1 v2 l1 l2 d1 d2 (by omega) (by omega)
 have hlen:(dg (nv l1 * nv l2)).length ≤ 1099511627776:=by
  have:=dg_mul_len (dg_len_le d1) (dg_len_le d2)
  omega
 have hI:=fun b o=>IMake_tr b o (dg (nv l1 * nv l2)) (Dg_dg _) hlen
 rw [nv_dg] at hI
 unfold IR at hI ⊢
 obtain ⟨z,hz⟩ : ∃ z,z = sg (!(b1 == b2)) (nv l1 * nv l2):=⟨_,rfl⟩
 have hI2:=hI (!(b1 == b2))
 rw [← hz] at hI2 ⊢
 clear hI hz hlen
 generalize dg (nv l1 * nv l2) = pd at *
 refine Tr.enter env _ Tryz.func131 (by kernel_rfl) rfl Tryz.ntmps131 rfl (by repeat (first | exact has00 | refine has01 ?_)) fun w0=>?_
 repeat' first|refine bx fun q=>?_|refine al fun c=>?_|refine sq ?_|refine rg ?_|refine xc ?_|refine nl ?_
 rename_i q1
 refine rs (fun w=>w.heap[q1]? = some (.cells [.bool b1,v1].toArray TIt (0,0))∧w.heap[q]? = some (.cells [.bool b2,v2].toArray TIt (0,0))) ?_ (fun w hw=>⟨pt_at (b:=q1) (cs:=[.bool b1,v1]) (T:=TIt) memA hw,pt_at (b:=q) (cs:=[.bool b2,v2]) (T:=TIt) memA hw⟩)
 refine tka 0 ?_
 refine tkl 1 (cs:=[.bool b1,v1]) (fun w h=>h.1) ?_
 refine tka 2 ?_
 refine tkl 3 (cs:=[.bool b2,v2]) (fun w h=>h.2) ?_
 refine tk 4 (v:=.bool (!(b1 == b2))) (fun _ _=>R_bne (E:=env) rfl rfl rfl) ?_
 refine tka 5 ?_
 refine tkl 6 (cs:=[.bool b1,v1]) (fun w h=>h.1) ?_
 refine tka 7 ?_
 refine tkl 8 (cs:=[.bool b2,v2]) (fun w h=>h.2) ?_
 refine t1 9 ?_
 refine ca hM ?_
 rintro o _ ⟨ho,rfl⟩
 refine nl ?_
 refine te (fun w hw=>⟨pt_at (b:=q1) (cs:=[.bool b1,v1]) (T:=TIt) memA hw,pt_at (b:=q) (cs:=[.bool b2,v2]) (T:=TIt) memA hw⟩) ?_
 refine t1 10 ?_
 refine ca (hI2 o) ?_
 rintro _ _ ⟨o2,rfl,ho2,rfl⟩
 refine nl ?_
 refine te (fun w hw=>⟨pt_at (b:=q1) (cs:=[.bool b1,v1]) (T:=TIt) memA hw,pt_at (b:=q) (cs:=[.bool b2,v2]) (T:=TIt) memA hw⟩) ?_
 refine t1 11 ?_
 refine srz ?_
 refine nl ?_
 refine te (fun w hw=>⟨pt_at (b:=q1) (cs:=[.bool b1,v1]) (T:=TIt) memA hw,pt_at (b:=q) (cs:=[.bool b2,v2]) (T:=TIt) memA hw⟩) ?_
 refine t0 ?_
 repeat' first|refine xc ?_|refine rt ?_
 exact rca1 (cs:=[.bool (decide (z < 0)),o2]) (vs:=[.bool (decide (z < 0)),o2]) (T:=TIt) ⟨o2,rfl,ho2,rfl⟩
theorem along_tr (z1 z2:Int) (v1 v2:Value) (hs:decide (z1 < 0) = decide (z2 < 0)) (h1:(dz z1).length ≤ 549755813888) (h2:(dz z2).length ≤ 549755813888) :
  Tr Tryz.prog 161 [iv z1 v1,iv z2 v2] [vw v1 (Us (dz z1)),vw v2 (Us (dz z2))] [] (IR (z1 + z2)):=by
 have hA:=NAdd_tr v1 v2 (dz z1) (dz z2) (Dg_dg _) (Dg_dg _) (by omega) (by omega)
 have hlen:(dg (nv (dz z1) + nv (dz z2))).length ≤ 1099511627776:=by
  unfold dz at *
  rw [nv_dg,nv_dg]
  have:=dg_add_len (i:=549755813888) h1 h2
  omega
 have hI:=fun o=>IMake_tr (decide (z1 < 0)) o (dg (nv (dz z1) + nv (dz z2))) (Dg_dg _) hlen
 have e:sg (decide (z1 < 0)) (nv (dz z1) + nv (dz z2)) = z1 + z2:=by
  unfold sg dz
  rw [nv_dg,nv_dg]
  by_cases h:z1 < 0
  ·have:=of_decide_eq_true (hs.symm.trans (decide_eq_true h))
   rw [if_pos (by simpa using h)];omega
  ·have:=of_decide_eq_false (hs.symm.trans (decide_eq_false h))
   rw [if_neg (by simpa using h)];omega
 rw [show nv (dg (nv (dz z1) + nv (dz z2))) = nv (dz z1) + nv (dz z2) from nv_dg _,e] at hI
 unfold IR at hI ⊢
 obtain ⟨z,hz⟩ : ∃ z,z = z1 + z2:=⟨_,rfl⟩
 rw [← hz] at hI ⊢
 clear hz hlen e hs
 generalize dg (nv (dz z1) + nv (dz z2)) = pd at *
 show Tr _ _ [.agg #[.bool (decide (z1 < 0)),v1],.agg #[.bool (decide (z2 < 0)),v2]] _ _ _
 generalize decide (z1 < 0) = b1 at *
 generalize decide (z2 < 0) = b2 at *
 generalize dz z1 = l1 at *
 generalize dz z2 = l2 at *
 refine Tr.enter env _ Tryz.func161 (by kernel_rfl) rfl Tryz.ntmps161 rfl (by repeat (first | exact has00 | refine has01 ?_)) fun w0=>?_
 repeat' first|refine bx fun q=>?_|refine al fun c=>?_|refine sq ?_|refine rg ?_|refine xc ?_|refine nl ?_
 rename_i q1
 refine rs (fun w=>w.heap[q1]? = some (.cells [.bool b1,v1].toArray TIt (0,0))∧w.heap[q]? = some (.cells [.bool b2,v2].toArray TIt (0,0))) ?_ (fun w hw=>⟨pt_at (b:=q1) (cs:=[.bool b1,v1]) (T:=TIt) memA hw,pt_at (b:=q) (cs:=[.bool b2,v2]) (T:=TIt) memA hw⟩)
 refine tka 0 ?_
 refine tkl 1 (cs:=[.bool b1,v1]) (fun w h=>h.1) ?_
 refine tka 2 ?_
 refine tkl 3 (cs:=[.bool b1,v1]) (fun w h=>h.1) ?_
 refine tka 4 ?_
 refine tkl 5 (cs:=[.bool b2,v2]) (fun w h=>h.2) ?_
 refine t1 6 ?_
 refine ca hA ?_
 rintro o _ ⟨ho,rfl⟩
 refine nl ?_
 refine te (fun w hw=>⟨pt_at (b:=q1) (cs:=[.bool b1,v1]) (T:=TIt) memA hw,pt_at (b:=q) (cs:=[.bool b2,v2]) (T:=TIt) memA hw⟩) ?_
 refine t1 7 ?_
 refine ca (hI o) ?_
 rintro _ _ ⟨o2,rfl,ho2,rfl⟩
 refine nl ?_
 refine te (fun w hw=>⟨pt_at (b:=q1) (cs:=[.bool b1,v1]) (T:=TIt) memA hw,pt_at (b:=q) (cs:=[.bool b2,v2]) (T:=TIt) memA hw⟩) ?_
 refine t1 8 ?_
 refine srz ?_
 refine nl ?_
 refine te (fun w hw=>⟨pt_at (b:=q1) (cs:=[.bool b1,v1]) (T:=TIt) memA hw,pt_at (b:=q) (cs:=[.bool b2,v2]) (T:=TIt) memA hw⟩) ?_
 refine t0 ?_
 repeat' first|refine xc ?_|refine rt ?_
 exact rca1 (cs:=[.bool (decide (z < 0)),o2]) (vs:=[.bool (decide (z < 0)),o2]) (T:=TIt) ⟨o2,rfl,ho2,rfl⟩
theorem against_tr (z1 z2:Int) (v1 v2:Value) (hs:decide (z1 < 0) ≠ decide (z2 < 0)) (h1:(dz z1).length ≤ 549755813888) (h2:(dz z2).length ≤ 549755813888) :
  Tr Tryz.prog 162 [iv z1 v1,iv z2 v2] [vw v1 (Us (dz z1)),vw v2 (Us (dz z2))] [] (IR (z1 + z2)):=by
 have hnn:(z1 < 0∧¬ z2 < 0)∨(¬ z1 < 0∧z2 < 0):=by
  by_cases g1:z1 < 0
  ·by_cases g2:z2 < 0
   ·exact absurd (by rw [decide_eq_true g1,decide_eq_true g2]) hs
   ·exact .inl ⟨g1,g2⟩
  ·by_cases g2:z2 < 0
   ·exact .inr ⟨g1,g2⟩
   ·exact absurd (by rw [decide_eq_false g1,decide_eq_false g2]) hs
 by_cases hle:z2.natAbs ≤ z1.natAbs
 ·have hA:=NSub_tr v1 v2 (dz z1) (dz z2) (Dg_dg _) (Dg_dg _) (by omega) (by omega) (by unfold dz;rw [nv_dg,nv_dg];exact hle)
  have hlen:(dg (nv (dz z1) - nv (dz z2))).length ≤ 1099511627776:=by
   unfold dz at *
   rw [nv_dg,nv_dg]
   exact Nat.le_trans (dg_mono (Nat.sub_le _ _)) (by omega)
  have hI:=fun o=>IMake_tr (decide (z1 < 0)) o (dg (nv (dz z1) - nv (dz z2))) (Dg_dg _) hlen
  have e:sg (decide (z1 < 0)) (nv (dz z1) - nv (dz z2)) = z1 + z2:=by
   unfold sg dz
   rw [nv_dg,nv_dg]
   by_cases h:z1 < 0
   ·rw [if_pos (by simpa using h)];omega
   ·rw [if_neg (by simpa using h)];omega
  rw [show nv (dg (nv (dz z1) - nv (dz z2))) = nv (dz z1) - nv (dz z2) from nv_dg _,e] at hI
  unfold IR at hI ⊢
  obtain ⟨z,hz⟩ : ∃ z,z = z1 + z2:=⟨_,rfl⟩
  rw [← hz] at hI ⊢
  clear hz hlen e hs hnn hle
  generalize dg (nv (dz z1) - nv (dz z2)) = pd at *
  show Tr _ _ [.agg #[.bool (decide (z1 < 0)),v1],.agg #[.bool (decide (z2 < 0)),v2]] _ _ _
  generalize decide (z1 < 0) = b1 at *
  generalize decide (z2 < 0) = b2 at *
  generalize dz z1 = l1 at *
  generalize dz z2 = l2 at *
  refine Tr.enter env _ Tryz.func162 (by kernel_rfl) rfl Tryz.ntmps162 rfl (by repeat (first | exact has00 | refine has01 ?_)) fun w0=>?_
  repeat' first|(refine gca ?_;first|(refine ca hA ?_;rintro _ _ ⟨o,rfl,ho,rfl⟩)|(refine ca (hI o) ?_;rintro _ _ ⟨o2,rfl,ho2,rfl⟩))|refine bx fun q=>?_|refine al fun c=>?_|refine srz ?_|(refine wo ?_;first|(refine ao ?_;first|refine oa ?_)|refine oa ?_|refine ld ?_)|(refine gc ?_;first|refine ct ?_)|refine sq ?_|refine rg ?_|refine xc ?_|refine nl ?_|refine rt ?_
  exact rca1 (cs:=[.bool (decide (z < 0)),o2]) (vs:=[.bool (decide (z < 0)),o2]) (T:=TIt) ⟨o2,rfl,ho2,rfl⟩
 ·have hA:=NSub0_tr v1 v2 (dz z1) (dz z2) (Dg_dg _) (Dg_dg _) (by unfold dz;rw [nv_dg,nv_dg];omega)
  have hB2:=NSub_tr v2 v1 (dz z2) (dz z1) (Dg_dg _) (Dg_dg _) (by omega) (by omega) (by unfold dz;rw [nv_dg,nv_dg];omega)
  have hlen:(dg (nv (dz z2) - nv (dz z1))).length ≤ 1099511627776:=by
   unfold dz at *
   rw [nv_dg,nv_dg]
   exact Nat.le_trans (dg_mono (Nat.sub_le _ _)) (by omega)
  have hI:=fun o=>IMake_tr (decide (z2 < 0)) o (dg (nv (dz z2) - nv (dz z1))) (Dg_dg _) hlen
  have e:sg (decide (z2 < 0)) (nv (dz z2) - nv (dz z1)) = z1 + z2:=by
   unfold sg dz
   rw [nv_dg,nv_dg]
   by_cases h:z2 < 0
   ·rw [if_pos (by simpa using h)];omega
   ·rw [if_neg (by simpa using h)];omega
  rw [show nv (dg (nv (dz z2) - nv (dz z1))) = nv (dz z2) - nv (dz z1) from nv_dg _,e] at hI
  unfold IR at hI ⊢
  obtain ⟨z,hz⟩ : ∃ z,z = z1 + z2:=⟨_,rfl⟩
  rw [← hz] at hI ⊢
  clear hz hlen e hs hnn hle
  generalize dg (nv (dz z2) - nv (dz z1)) = pd at *
  show Tr _ _ [.agg #[.bool (decide (z1 < 0)),v1],.agg #[.bool (decide (z2 < 0)),v2]] _ _ _
  generalize decide (z1 < 0) = b1 at *
  generalize decide (z2 < 0) = b2 at *
  generalize dz z1 = l1 at *
  generalize dz z2 = l2 at *
  refine Tr.enter env _ Tryz.func162 (by kernel_rfl) rfl Tryz.ntmps162 rfl (by repeat (first | exact has00 | refine has01 ?_)) fun w0=>?_
  repeat' first|(refine gca ?_;first|(refine ca hA ?_;rintro _ _ ⟨rfl,rfl⟩)|(refine ca hB2 ?_;rintro _ _ ⟨o,rfl,ho,rfl⟩)|(refine ca (hI o) ?_;rintro _ _ ⟨o2,rfl,ho2,rfl⟩))|refine bx fun q=>?_|refine al fun c=>?_|refine srz ?_|(refine wo ?_;first|(refine ao ?_;first|refine oa ?_)|refine oa ?_|refine ld ?_)|(refine gc ?_;first|refine cf ?_)|refine sq ?_|refine rg ?_|refine xc ?_|refine nl ?_|refine sk ?_|refine rt ?_
  exact rca1 (cs:=[.bool (decide (z < 0)),o2]) (vs:=[.bool (decide (z < 0)),o2]) (T:=TIt) ⟨o2,rfl,ho2,rfl⟩
theorem IAdd_tr (z1 z2:Int) (v1 v2:Value) (g1:v1.oneCell' = true) (g2:v2.oneCell' = true) (h1:(dz z1).length ≤ 549755813888) (h2:(dz z2).length ≤ 549755813888) :
  Tr Tryz.prog 130 [iv z1 v1,iv z2 v2] [vw v1 (Us (dz z1)),vw v2 (Us (dz z2))] [] (IR (z1 + z2)):=by
 by_cases hs:decide (z1 < 0) = decide (z2 < 0)
 ·have hA:=along_tr z1 z2 v1 v2 hs h1 h2
  unfold IR at hA ⊢
  obtain ⟨z,hz⟩ : ∃ z,z = z1 + z2:=⟨_,rfl⟩
  rw [← hz] at hA ⊢
  clear hz
  show Tr _ _ [.agg #[.bool (decide (z1 < 0)),v1],.agg #[.bool (decide (z2 < 0)),v2]] _ _ _
  change Tr _ _ [.agg #[.bool (decide (z1 < 0)),v1],.agg #[.bool (decide (z2 < 0)),v2]] _ _ _ at hA
  rw [← hs] at hA ⊢
  generalize decide (z1 < 0) = b1 at *
  generalize dz z1 = l1 at *
  generalize dz z2 = l2 at *
  have hb:(!(b1 == b1)) = false:=by simp
  refine Tr.enter env _ Tryz.func130 (by kernel_rfl) rfl Tryz.ntmps130 rfl (by repeat (first | exact has00 | refine has01 ?_)) fun w0=>?_
  repeat' first|refine bx fun q=>?_|refine al fun c=>?_|(refine ibn ?_;rw [hb])|(refine wo ?_;first|refine oa ?_|refine ld ?_)|(refine gc ?_;first|refine cf ?_)|refine sq ?_|refine rg ?_|refine xc ?_|refine nl ?_|refine sk ?_
  rename_i q1
  refine rs (fun w=>w.heap[q1]? = some (.cells [.bool b1,v1].toArray TIt (0,0))∧w.heap[q]? = some (.cells [.bool b1,v2].toArray TIt (0,0))) ?_ (fun w hw=>⟨pt_at (b:=q1) (cs:=[.bool b1,v1]) (T:=TIt) memA hw,pt_at (b:=q) (cs:=[.bool b1,v2]) (T:=TIt) memA hw⟩)
  refine tk 0 (v:=.agg #[.func (.func 161) #[] #[],.func (.func 162) #[] #[]]) (fun w h=>R_buildArr (E:=env) rfl rfl rfl rfl rfl) ?_
  refine tka 1 ?_
  refine tk 2 (v:=.func (.func 161) #[] #[]) (fun w h=>R_index1 (E:=env) (m:=2) (i:=0) rfl rfl rfl rfl rfl rfl (by decide) rfl) ?_
  refine tk 3 (v:=.agg #[.bool b1,v1]) (fun w h=>R_loadA (E:=env) (vs:=[.bool b1,v1]) rfl rfl rfl rfl h.1 rfl rfl) ?_
  refine tk 4 (v:=.agg #[.bool b1,v2]) (fun w h=>R_loadA (E:=env) (vs:=[.bool b1,v2]) rfl rfl rfl rfl h.2 rfl rfl) ?_
  refine t1 5 ?_
  refine cav (cap:=#[]) (vs:=[.agg #[.bool b1,v1],.agg #[.bool b1,v2]]) hA ?_
  rintro _ _ ⟨o2,rfl,ho2,rfl⟩
  refine nl ?_
  refine te (fun w hw=>⟨pt_at (b:=q1) (cs:=[.bool b1,v1]) (T:=TIt) memA hw,pt_at (b:=q) (cs:=[.bool b1,v2]) (T:=TIt) memA hw⟩) ?_
  refine t1 6 ?_
  refine srz ?_
  refine nl ?_
  refine te (fun w hw=>⟨pt_at (b:=q1) (cs:=[.bool b1,v1]) (T:=TIt) memA hw,pt_at (b:=q) (cs:=[.bool b1,v2]) (T:=TIt) memA hw⟩) ?_
  refine t0 ?_
  repeat' first|refine xc ?_|refine rt ?_
  exact rca1 (cs:=[.bool (decide (z < 0)),o2]) (vs:=[.bool (decide (z < 0)),o2]) (T:=TIt) ⟨o2,rfl,ho2,rfl⟩
 ·have hA:=against_tr z1 z2 v1 v2 hs h1 h2
  unfold IR at hA ⊢
  obtain ⟨z,hz⟩ : ∃ z,z = z1 + z2:=⟨_,rfl⟩
  rw [← hz] at hA ⊢
  clear hz
  show Tr _ _ [.agg #[.bool (decide (z1 < 0)),v1],.agg #[.bool (decide (z2 < 0)),v2]] _ _ _
  change Tr _ _ [.agg #[.bool (decide (z1 < 0)),v1],.agg #[.bool (decide (z2 < 0)),v2]] _ _ _ at hA
  generalize decide (z1 < 0) = b1 at *
  generalize decide (z2 < 0) = b2 at *
  generalize dz z1 = l1 at *
  generalize dz z2 = l2 at *
  have hb:(!(b1 == b2)) = true:=by simpa using hs
  refine Tr.enter env _ Tryz.func130 (by kernel_rfl) rfl Tryz.ntmps130 rfl (by repeat (first | exact has00 | refine has01 ?_)) fun w0=>?_
  repeat' first|refine bx fun q=>?_|refine al fun c=>?_|(refine ibn ?_;rw [hb])|(refine wo ?_;first|refine oa ?_|refine ld ?_)|(refine gc ?_;first|refine ct ?_)|refine sq ?_|refine rg ?_|refine xc ?_|refine nl ?_
  rename_i q1
  refine rs (fun w=>w.heap[q1]? = some (.cells [.bool b1,v1].toArray TIt (0,0))∧w.heap[q]? = some (.cells [.bool b2,v2].toArray TIt (0,0))) ?_ (fun w hw=>⟨pt_at (b:=q1) (cs:=[.bool b1,v1]) (T:=TIt) memA hw,pt_at (b:=q) (cs:=[.bool b2,v2]) (T:=TIt) memA hw⟩)
  refine tk 0 (v:=.agg #[.func (.func 161) #[] #[],.func (.func 162) #[] #[]]) (fun w h=>R_buildArr (E:=env) rfl rfl rfl rfl rfl) ?_
  refine tka 1 ?_
  refine tk 2 (v:=.func (.func 162) #[] #[]) (fun w h=>R_index1 (E:=env) (m:=2) (i:=1) rfl rfl rfl rfl rfl rfl (by decide) rfl) ?_
  refine tk 3 (v:=.agg #[.bool b1,v1]) (fun w h=>R_loadA (E:=env) (vs:=[.bool b1,v1]) rfl rfl rfl rfl h.1 rfl rfl) ?_
  refine tk 4 (v:=.agg #[.bool b2,v2]) (fun w h=>R_loadA (E:=env) (vs:=[.bool b2,v2]) rfl rfl rfl rfl h.2 rfl rfl) ?_
  refine t1 5 ?_
  refine cav (cap:=#[]) (vs:=[.agg #[.bool b1,v1],.agg #[.bool b2,v2]]) hA ?_
  rintro _ _ ⟨o2,rfl,ho2,rfl⟩
  refine nl ?_
  refine te (fun w hw=>⟨pt_at (b:=q1) (cs:=[.bool b1,v1]) (T:=TIt) memA hw,pt_at (b:=q) (cs:=[.bool b2,v2]) (T:=TIt) memA hw⟩) ?_
  refine t1 6 ?_
  refine srz ?_
  refine nl ?_
  refine te (fun w hw=>⟨pt_at (b:=q1) (cs:=[.bool b1,v1]) (T:=TIt) memA hw,pt_at (b:=q) (cs:=[.bool b2,v2]) (T:=TIt) memA hw⟩) ?_
  refine t0 ?_
  repeat' first|refine xc ?_|refine rt ?_
  exact rca1 (cs:=[.bool (decide (z < 0)),o2]) (vs:=[.bool (decide (z < 0)),o2]) (T:=TIt) ⟨o2,rfl,ho2,rfl⟩
end Go.Art
namespace Go.Art
open Go Go.Proofs Go.RowKit
abbrev Fr3:=Bool × List Nat × List Nat
abbrev rqf (q:Rat):Fr3:=(decide (q.num < 0),dg q.num.natAbs,dg q.den)
abbrev rqn:Fr3:=(false,[],[])
abbrev FW (t:Fr3 × Int) (u:Value) (D:List Ch):Prop:=∃ vn vd,u = tup2 (.agg #[.bool t.1.1,vn,vd]) (I t.2)∧vn.oneCell' = true∧vd.oneCell' = true∧D = [own T64 vn (Us t.1.2.1),own T64 vd (Us t.1.2.2)]
theorem FW.of0 {e:Int} {u:Value} {D:List Ch} (h:u = tup2 rv0 (I e)∧D = [own T64 nS (Us []),own T64 nS (Us [])]):FW (rqn,e) u D:=⟨nS,nS,h.1,rfl,rfl,h.2⟩
def meaW (tot:Int) (cut oth:List Int) (k d:Int):Fr3 × Int:=
 if rwE tot cut oth k = 0 then (if d < 1∨cut.length < d then (rqn,3) else (rqf (mkRat 1 (fall k.toNat d.toNat * cut.length * tot.toNat)),0)) else (rqn,rwE tot cut oth k)
def chaW (t:List Int) (k d:Int):Fr3 × Int:=
 if solE t k = 0 then (if d < 1∨t.length < d then (rqn,3) else (rqf (mkRat (t.getD (d - 1).toNat 0) (chs k.toNat d.toNat * t.sum.toNat)),0)) else (rqn,13)
section
variable {P:Program} {E:Env P} {X:Cx} {fr:Fr} {A D G:List Ch}
theorem rcc {w0:World} {A0:List Ch} {R':Value→List Ch→Prop} {fn:Func} {t nn:Nat} {ty T:TypeId} {dt:TypeDesc} {b:Nat} {cs:List Value} {v:Value} (h:R' v D) (hr:fn.results = #[.cell t ty]:=by rfl) (ht:lk E.und ty = some dt:=by rfl) (hg:aggB dt = false:=by rfl)
  (hv:get fr t = some (ptr b):=by rfl) (hm:pt b cs T ∈ A:=by exact memA) (hc:cs[0]? = some v:=by rfl) (hf:Fit A D G:=by exact fitA) (nb:∀ c ∈ D,∀ b,¬ c.bd b:=by (repeat (first | exact nb0 | refine nb1 ?_));first | done | fail) :
  TX E ⟨nn,[],none⟩ ⟨bodyPost P fn (RetP (PR w0 A0 R')),w0,A0⟩ [] .ret fr A:=⟨fun w hw=>⟨fun a ha=>
 bodyPost_ret (res_c (E:=E) ha hr ht hg hv (ptcell hw.sat hm hc)) (ha.defers.trans rfl) ⟨_,rfl,PR.mk h hw hf nb⟩⟩⟩
end
attribute [local irreducible] Fit pt own ro vw mpc lpt vels rels mow lrc dfr
attribute [local irreducible] lmp lme mit velg relg
theorem one_tr:Tr Tryz.prog 118 [] [] [] fun u D=>u.oneCell' = true∧D = [own T64 u (Us [1])]:=by
 refine Tr.enter env _ Tryz.func118 (by kernel_rfl) rfl Tryz.ntmps118 rfl (by repeat (first | exact has00 | refine has01 ?_)) fun w0=>?_
 repeat' first|(refine slu [1] fun o ho=>?_)|(refine wo ?_;first|refine oa ?_)|refine sq ?_|refine rg ?_|refine xc ?_|refine nl ?_|refine rt ?_
 exact r1 ⟨ho,rfl⟩
theorem soAdd_tr (c:Nat) (m w:Int) (h : -9223372036854775808 ≤ m + w∧m + w ≤ 9223372036854775807):Tr Tryz.prog 154 [I w,ptr c] [] [pt c [I m] TLI] fun _ D=>D = [pt c [I (m + w)] TLI]:=by
 refine Tr.enter env _ Tryz.func154 (by kernel_rfl) rfl Tryz.ntmps154 rfl (by repeat (first | exact has00 | refine has01 ?_)) fun w0=>?_
 repeat' first|(refine wo ?_;first|(refine ao ?_;first|refine aw ?_)|refine oa ?_|refine ld ?_|refine sr ?_)|refine rg ?_|refine nl ?_
 exact e0 rfl
theorem SoTotal_tr (s:Value) (t:List Int) (h1:1 ≤ t.length∧t.length ≤ 65536) (hw:∀ w ∈ t,0 ≤ w∧w ≤ 16777215):Tr Tryz.prog 116 [s] [vw s (Is t)] [] fun v D=>v = I t.sum∧D = []:=by
 refine Tr.enter env _ Tryz.func116 (by kernel_rfl) rfl Tryz.ntmps116 rfl (by repeat (first | exact has00 | refine has01 ?_)) fun w0=>?_
 repeat' first|refine al fun c=>?_|(refine wo ?_;first|refine oa ?_|refine lnm ?_)|refine sq ?_|refine rg ?_|refine xc ?_|refine nl ?_|refine bk ?_
 refine TC.loop (ι:=Nat) (fun i=>[(9,I i)]) (fun i=>[pt c [I (t.take i).sum] TLI]) (fun i=>i ≤ t.length) (fun i=>t.length - i) 0 [2,3,7,8] (by simp) ?_
 rintro i h2
 by_cases hi:i < t.length
 ·have hs:=take_sum hi
  have hb:=hw _ (mem_getD.2 ⟨i,hi,rfl⟩)
  have hc:=sum_bound (t:=t.take i) fun w h=>hw w (List.mem_of_mem_take h)
  rw [List.length_take] at hc
  generalize hy:t.getD i 0 = y at *
  generalize (t.take i).sum = m at *
  repeat' first|refine lie hy ?_|(refine cav (cap:=#[ptr c]) (vs:=[I y]) (soAdd_tr c m y (by omega)) ?_;rintro _ _ rfl)|(refine wo ?_;first|(refine ao ?_;first|refine aw ?_|refine oa ?_)|refine oa ?_|refine ixmn ?_)|(refine gc ?_;first|(refine ci (fun hB=>?_) (fun hB=>?_) <;> try (exfalso;omega)))|refine sq ?_|refine rg ?_|refine xc ?_|refine nl ?_|refine sk ?_|refine bk ?_|refine xb ?_
  exact lp (i + 1) (by omega) (hf:=by rw [hs];exact fitA)
 ·obtain rfl:i = t.length:=by omega
  rw [List.take_length]
  repeat' first|(refine wo ?_;first|(refine ao ?_;first|refine oa ?_)|refine ld ?_|refine sr ?_)|(refine gc ?_;first|(refine ci (fun hB=>?_) (fun hB=>?_) <;> try (exfalso;omega)))|refine sq ?_|refine rg ?_|refine xc ?_|refine nl ?_|refine xe ?_|refine rt ?_
  exact rcc (cs:=[I t.sum]) (T:=TLI) ⟨rfl,rfl⟩
end Go.Art
namespace Go.Art
open Go Go.Proofs Go.RowKit
def FB (q:Rat) (B:Nat):Prop:=(dg q.num.natAbs).length ≤ B∧(dg q.den).length ≤ B
theorem FB.le {q:Rat} {B C:Nat} (h:FB q B) (k:B ≤ C):FB q C:=⟨Nat.le_trans h.1 k,Nat.le_trans h.2 k⟩
theorem sg_mulN (z:Int) (m:Nat):sg (!(decide (z < 0) == false)) (z.natAbs * m) = z * m:=by
 have:=sg_mul z (m:Int)
 rwa [show decide ((m:Int) < 0) = false from decide_eq_false (by omega),Int.natAbs_natCast] at this
theorem sg_dz (z:Int):sg (decide (z < 0)) (nv (dz z)) = z:=by
 unfold sg;rw [nv_dg]
 by_cases h:z < 0
 ·rw [if_pos (by simpa using h)];omega
 ·rw [if_neg (by simpa using h)];omega
attribute [local irreducible] Fit pt own ro vw mpc lpt vels rels mow lrc dfr
attribute [local irreducible] lmp lme mit velg relg
theorem FCheck_tr (q:Rat) (vn vd:Value) (hn:vn.oneCell' = true) (hd:vd.oneCell' = true) (hB:FB q 549755813888):Tr Tryz.prog 82 [rv q vn vd] [vw vn (Us (dg q.num.natAbs)),vw vd (Us (dg q.den))] [] fun u D=>u = I 0∧D = []:=by
 have hC:=ICheck_tr (decide (q.num < 0)) vn (dz q.num)
 rw [if_neg (icheck_ok q.num)] at hC
 have hK:=Check_tr vd (dg q.den)
 rw [if_neg (Tm_top (Tm_dg _))] at hK
 have hl:=dg_len_pos q.den_nz
 have hG:=NGcd_tr vn vd (dg q.num.natAbs) (dg q.den) (Dg_dg _) (Dg_dg _) hB.1 hB.2
 rw [nv_dg,nv_dg,show Nat.gcd q.num.natAbs q.den = 1 from q.reduced] at hG
 have hM:=fun v1 v2=>Cmp_tr v1 v2 (dg 1) [1] (Dg_dg _) (Dg.one (by decide))
 rw [nv_dg,show nv [1] = 1 from rfl,show cmpN 1 1 = 0 by decide] at hM
 obtain ⟨b,hb⟩ : ∃ b,b = decide (q.num < 0):=⟨_,rfl⟩
 show Tr _ _ [.agg #[.bool (decide (q.num < 0)),vn,vd]] _ _ _
 rw [← hb] at hC ⊢
 unfold dz at hC
 generalize dg q.num.natAbs = l1 at *
 generalize dg q.den = l2 at *
 clear hB hb
 refine Tr.enter env _ Tryz.func82 (by kernel_rfl) rfl Tryz.ntmps82 rfl (by repeat (first | exact has00 | refine has01 ?_)) fun w0=>?_
 repeat' first|(refine gca ?_;first|(refine ca hC ?_;rintro _ _ ⟨rfl,rfl⟩)|(refine ca hK ?_;rintro _ _ ⟨rfl,rfl⟩)|(refine ca hG ?_;rintro g _ ⟨hg,rfl⟩)|(refine ca one_tr ?_;rintro o _ ⟨ho,rfl⟩)|(refine ca (hM g o) ?_;rintro _ _ ⟨rfl,rfl⟩))|refine bx fun q=>?_|refine lda ?_|(refine wo ?_;first|(refine ao ?_;first|refine oa ?_)|refine oa ?_|refine ld ?_|refine lnm ?_|refine gy ?_|(refine gsi (fun hB=>?_) (fun hB=>?_) <;> try (exfalso;omega)))|(refine gc ?_;first|refine cf ?_)|refine sq ?_|refine rg ?_|refine xc ?_|refine nl ?_|refine sk ?_|refine rt ?_
 exact r1 ⟨rfl,rfl⟩
theorem sumW_tr (v:Value) (hv:v.oneCell' = true):Tr Tryz.prog 129 [v] [] [] fun u D=>u = .agg #[.bool false,v]∧D = []:=by
 refine Tr.enter env _ Tryz.func129 (by kernel_rfl) rfl Tryz.ntmps129 rfl (by repeat (first | exact has00 | refine has01 ?_)) fun w0=>?_
 repeat' first|refine al fun c=>?_|refine bdz ?_|refine srz ?_|(refine wo ?_;first|refine oa ?_)|refine sq ?_|refine rg ?_|refine xc ?_|refine nl ?_|refine rt ?_
 exact rca1 (cs:=[.bool false,v]) (vs:=[.bool false,v]) (T:=TIt) ⟨rfl,rfl⟩
theorem FSum_tr (q r:Rat) (v1 v2 v3 v4:Value) (h1:v1.oneCell' = true) (h2:v2.oneCell' = true) (h3:v3.oneCell' = true) (h4:v4.oneCell' = true) (hq:FB q 8589934592) (hr:FB r 8589934592) :
  Tr Tryz.prog 83 [rv q v1 v2,rv r v3 v4] [vw v1 (Us (dg q.num.natAbs)),vw v2 (Us (dg q.den)),vw v3 (Us (dg r.num.natAbs)),vw v4 (Us (dg r.den))] [] (FQ (q + r)):=by
 have hM1:=IMulF_tr (decide (q.num < 0)) false v1 v4 (dg q.num.natAbs) (dg r.den) (Dg_dg _) (Dg_dg _) (by have:=hq.1;omega) (by have:=hr.2;omega)
 have hM2:=IMulF_tr (decide (r.num < 0)) false v3 v2 (dg r.num.natAbs) (dg q.den) (Dg_dg _) (Dg_dg _) (by have:=hr.1;omega) (by have:=hq.2;omega)
 have hM3:=NMul_tr v2 v4 (dg q.den) (dg r.den) (Dg_dg _) (Dg_dg _) (by have:=hq.2;omega) (by have:=hr.2;omega)
 rw [nv_dg,nv_dg] at hM1 hM2 hM3
 rw [sg_mulN] at hM1 hM2
 have l1:(dz (q.num * r.den)).length ≤ 17179869184:=dz_mul hq.1 (by unfold dz;rw [Int.natAbs_natCast];exact hr.2)
 have l2:(dz (r.num * q.den)).length ≤ 17179869184:=dz_mul hr.1 (by unfold dz;rw [Int.natAbs_natCast];exact hq.2)
 have l3:(dg (q.den * r.den)).length ≤ 17179869184:=dg_mul_len hq.2 hr.2
 have l4:(dz (q.num * r.den + r.num * q.den)).length ≤ 17179869185:=by
  unfold dz at *
  exact Nat.le_trans (dg_mono (Int.natAbs_add_le _ _)) (dg_add_len l1 l2)
 have hA:=fun o1 o2 g1 g2=>IAdd_tr (q.num * r.den) (r.num * q.den) o1 o2 g1 g2 (by omega) (by omega)
 have hL:=fun o d=>lowest_tr (decide (q.num * r.den + r.num * q.den < 0)) o d (dz (q.num * r.den + r.num * q.den)) (dg (q.den * r.den)) (Dg_dg _) (Dg_dg _) (by omega) (by omega) (by rw [nv_dg];exact Nat.mul_ne_zero q.den_nz r.den_nz)
 rw [sg_dz,nv_dg,← Rat.add_def'] at hL
 obtain ⟨s,hs⟩ : ∃ s,s = q + r:=⟨_,rfl⟩
 rw [← hs] at hL ⊢
 clear hs l1 l2 l3 l4 hq hr
 unfold IR at hM1 hM2 hA
 unfold FQ at hL
 show Tr _ _ [.agg #[.bool (decide (q.num < 0)),v1,v2],.agg #[.bool (decide (r.num < 0)),v3,v4]] _ _ _
 generalize q.num * r.den + r.num * q.den = z3 at *
 generalize q.num * r.den = z1 at *
 generalize r.num * q.den = z2 at *
 generalize dg (q.den * r.den) = l3 at *
 generalize dg q.num.natAbs = lq at *
 generalize dg q.den = lqd at *
 generalize dg r.num.natAbs = lr at *
 generalize dg r.den = lrd at *
 generalize decide (q.num < 0) = b1 at *
 generalize decide (r.num < 0) = b2 at *
 refine Tr.enter env _ Tryz.func83 (by kernel_rfl) rfl Tryz.ntmps83 rfl (by repeat (first | exact has00 | refine has01 ?_)) fun w0=>?_
 repeat' first|refine bx fun q=>?_|refine al fun c=>?_|(refine wo ?_;first|refine oa ?_)|refine sq ?_|refine rg ?_|refine xc ?_|refine nl ?_
 rename_i q1
 refine cutY (ι:=Nat × Value) (fun g=>g.2.oneCell' = true) (fun g=>[(2,ptr q1),(3,ptr q),(4,ptr c),(6,ptr g.1)]) (fun g=>[pt q1 [.bool b1,v1,v2] TRt,pt q [.bool b2,v3,v4] TRt,pt c [.bool false,nS,nS] TRt,pt g.1 [.bool (decide (z3 < 0)),g.2] TIt,own T64 g.2 (Us (dz z3)),vw v2 (Us lqd),vw v4 (Us lrd)]) ?_ ?_
 ·rintro ⟨c2,o3⟩ ho3
  dsimp only at ho3 ⊢
  repeat' first|refine sq ?_
  refine rs (fun w=>w.heap[q1]? = some (.cells [.bool b1,v1,v2].toArray TRt (0,0))∧w.heap[q]? = some (.cells [.bool b2,v3,v4].toArray TRt (0,0))∧w.heap[c2]? = some (.cells [.bool (decide (z3 < 0)),o3].toArray TIt (0,0))) ?_ (fun w hw=>⟨pt_at (b:=q1) (cs:=[.bool b1,v1,v2]) (T:=TRt) memA hw,pt_at (b:=q) (cs:=[.bool b2,v3,v4]) (T:=TRt) memA hw,pt_at (b:=c2) (cs:=[.bool (decide (z3 < 0)),o3]) (T:=TIt) memA hw⟩)
  refine tk 0 (v:=.agg #[.bool (decide (z3 < 0)),o3]) (fun w h=>R_loadA (E:=env) (vs:=[.bool (decide (z3 < 0)),o3]) rfl rfl rfl rfl h.2.2 rfl rfl) ?_
  refine tka 1 ?_
  refine tkl 2 (cs:=[.bool b1,v1,v2]) (fun w h=>h.1) ?_
  refine tka 3 ?_
  refine tkl 4 (cs:=[.bool b2,v3,v4]) (fun w h=>h.2.1) ?_
  refine t1 5 ?_
  refine ca hM3 ?_
  rintro d3 _ ⟨hd3,rfl⟩
  refine nl ?_
  refine te (fun w hw=>⟨pt_at (b:=q1) (cs:=[.bool b1,v1,v2]) (T:=TRt) memA hw,pt_at (b:=q) (cs:=[.bool b2,v3,v4]) (T:=TRt) memA hw,pt_at (b:=c2) (cs:=[.bool (decide (z3 < 0)),o3]) (T:=TIt) memA hw⟩) ?_
  refine t1 6 ?_
  refine ca (hL o3 d3) ?_
  rintro _ _ ⟨vn,vd,rfl,hvn,hvd,rfl⟩
  refine nl ?_
  refine te (fun w hw=>⟨pt_at (b:=q1) (cs:=[.bool b1,v1,v2]) (T:=TRt) memA hw,pt_at (b:=q) (cs:=[.bool b2,v3,v4]) (T:=TRt) memA hw,pt_at (b:=c2) (cs:=[.bool (decide (z3 < 0)),o3]) (T:=TIt) memA hw⟩) ?_
  refine t1 7 ?_
  refine srz ?_
  refine nl ?_
  refine te (fun w hw=>⟨pt_at (b:=q1) (cs:=[.bool b1,v1,v2]) (T:=TRt) memA hw,pt_at (b:=q) (cs:=[.bool b2,v3,v4]) (T:=TRt) memA hw,pt_at (b:=c2) (cs:=[.bool (decide (z3 < 0)),o3]) (T:=TIt) memA hw⟩) ?_
  refine t0 ?_
  repeat' first|refine xc ?_|refine rt ?_
  exact rca1 (cs:=[.bool (decide (s.num < 0)),vn,vd]) (vs:=[.bool (decide (s.num < 0)),vn,vd]) (T:=TRt) ⟨vn,vd,rfl,hvn,hvd,rfl⟩
 ·intro b' kb
  refine rs (fun w=>w.heap[q1]? = some (.cells [.bool b1,v1,v2].toArray TRt (0,0))∧w.heap[q]? = some (.cells [.bool b2,v3,v4].toArray TRt (0,0))) ?_ (fun w hw=>⟨pt_at (b:=q1) (cs:=[.bool b1,v1,v2]) (T:=TRt) memA hw,pt_at (b:=q) (cs:=[.bool b2,v3,v4]) (T:=TRt) memA hw⟩)
  refine tka 0 ?_
  refine tk 1 (v:=.agg #[.bool b1,v1]) (fun w h=>R_loadA (E:=env) (vs:=[.bool b1,v1]) rfl rfl rfl rfl h.1 rfl rfl) ?_
  refine tka 2 ?_
  refine tka 3 ?_
  refine tkl 4 (cs:=[.bool b2,v3,v4]) (fun w h=>h.2) ?_
  refine tka 7 ?_
  refine tk 8 (v:=.agg #[.bool b2,v3]) (fun w h=>R_loadA (E:=env) (vs:=[.bool b2,v3]) rfl rfl rfl rfl h.2 rfl rfl) ?_
  refine tka 9 ?_
  refine tka 10 ?_
  refine tkl 11 (cs:=[.bool b1,v1,v2]) (fun w h=>h.1) ?_
  refine t2 5 15 ?_ ?_
  ·refine cav (cap:=#[]) (vs:=[v4]) (sumW_tr v4 h4) ?_
   rintro _ _ ⟨rfl,rfl⟩
   refine nl ?_
   refine te (fun w hw=>⟨pt_at (b:=q1) (cs:=[.bool b1,v1,v2]) (T:=TRt) memA hw,pt_at (b:=q) (cs:=[.bool b2,v3,v4]) (T:=TRt) memA hw⟩) ?_
   refine t2 6 15 ?_ ?_
   ·refine ca hM1 ?_
    rintro _ _ ⟨o1,rfl,ho1,rfl⟩
    refine nl ?_
    refine te (fun w hw=>⟨pt_at (b:=q1) (cs:=[.bool b1,v1,v2]) (T:=TRt) memA hw,pt_at (b:=q) (cs:=[.bool b2,v3,v4]) (T:=TRt) memA hw⟩) ?_
    refine t2 12 15 ?_ ?_
    ·refine cav (cap:=#[]) (vs:=[v2]) (sumW_tr v2 h2) ?_
     rintro _ _ ⟨rfl,rfl⟩
     refine nl ?_
     refine te (fun w hw=>⟨pt_at (b:=q1) (cs:=[.bool b1,v1,v2]) (T:=TRt) memA hw,pt_at (b:=q) (cs:=[.bool b2,v3,v4]) (T:=TRt) memA hw⟩) ?_
     refine t2 13 15 ?_ ?_
     ·refine ca hM2 ?_
      rintro _ _ ⟨o2,rfl,ho2,rfl⟩
      refine nl ?_
      refine te (fun w hw=>⟨pt_at (b:=q1) (cs:=[.bool b1,v1,v2]) (T:=TRt) memA hw,pt_at (b:=q) (cs:=[.bool b2,v3,v4]) (T:=TRt) memA hw⟩) ?_
      refine t2 14 15 ?_ ?_
      ·refine ca (hA o1 o2 ho1 ho2) ?_
       rintro _ _ ⟨o3,rfl,ho3,rfl⟩
       refine nl ?_
       refine te (fun w hw=>⟨pt_at (b:=q1) (cs:=[.bool b1,v1,v2]) (T:=TRt) memA hw,pt_at (b:=q) (cs:=[.bool b2,v3,v4]) (T:=TRt) memA hw⟩) ?_
       refine t1 15 ?_
       refine al fun c2=>?_
       refine nl ?_
       refine te (fun w hw=>⟨pt_at (b:=q1) (cs:=[.bool b1,v1,v2]) (T:=TRt) memA hw,pt_at (b:=q) (cs:=[.bool b2,v3,v4]) (T:=TRt) memA hw⟩) ?_
       refine t1 16 ?_
       refine srz ?_
       refine nl ?_
       refine te (fun w hw=>⟨pt_at (b:=q1) (cs:=[.bool b1,v1,v2]) (T:=TRt) memA hw,pt_at (b:=q) (cs:=[.bool b2,v3,v4]) (T:=TRt) memA hw⟩) ?_
       refine t0 ?_
       repeat' first|refine xc ?_
       exact kb (c2,o3) ho3 _ _ (by (repeat (refine Sub.cons rfl (by first | rfl | go_num) ?_));exact Sub.nil) fitA
      ·refine al fun c2=>?_
       refine nl ?_
       refine te (fun w hw=>⟨pt_at (b:=q1) (cs:=[.bool b1,v1,v2]) (T:=TRt) memA hw,pt_at (b:=q) (cs:=[.bool b2,v3,v4]) (T:=TRt) memA hw⟩) ?_
       refine t1 14 ?_
       refine ca (hA o1 o2 ho1 ho2) ?_
       rintro _ _ ⟨o3,rfl,ho3,rfl⟩
       refine nl ?_
       refine te (fun w hw=>⟨pt_at (b:=q1) (cs:=[.bool b1,v1,v2]) (T:=TRt) memA hw,pt_at (b:=q) (cs:=[.bool b2,v3,v4]) (T:=TRt) memA hw⟩) ?_
       refine t1 16 ?_
       refine srz ?_
       refine nl ?_
       refine te (fun w hw=>⟨pt_at (b:=q1) (cs:=[.bool b1,v1,v2]) (T:=TRt) memA hw,pt_at (b:=q) (cs:=[.bool b2,v3,v4]) (T:=TRt) memA hw⟩) ?_
       refine t0 ?_
       repeat' first|refine xc ?_
       exact kb (c2,o3) ho3 _ _ (by (repeat (refine Sub.cons rfl (by first | rfl | go_num) ?_));exact Sub.nil) fitA
     ·refine al fun c2=>?_
      refine nl ?_
      refine te (fun w hw=>⟨pt_at (b:=q1) (cs:=[.bool b1,v1,v2]) (T:=TRt) memA hw,pt_at (b:=q) (cs:=[.bool b2,v3,v4]) (T:=TRt) memA hw⟩) ?_
      refine t1 13 ?_
      refine ca hM2 ?_
      rintro _ _ ⟨o2,rfl,ho2,rfl⟩
      refine nl ?_
      refine te (fun w hw=>⟨pt_at (b:=q1) (cs:=[.bool b1,v1,v2]) (T:=TRt) memA hw,pt_at (b:=q) (cs:=[.bool b2,v3,v4]) (T:=TRt) memA hw⟩) ?_
      refine t1 14 ?_
      refine ca (hA o1 o2 ho1 ho2) ?_
      rintro _ _ ⟨o3,rfl,ho3,rfl⟩
      refine nl ?_
      refine te (fun w hw=>⟨pt_at (b:=q1) (cs:=[.bool b1,v1,v2]) (T:=TRt) memA hw,pt_at (b:=q) (cs:=[.bool b2,v3,v4]) (T:=TRt) memA hw⟩) ?_
      refine t1 16 ?_
      refine srz ?_
      refine nl ?_
      refine te (fun w hw=>⟨pt_at (b:=q1) (cs:=[.bool b1,v1,v2]) (T:=TRt) memA hw,pt_at (b:=q) (cs:=[.bool b2,v3,v4]) (T:=TRt) memA hw⟩) ?_
      refine t0 ?_
      repeat' first|refine xc ?_
      exact kb (c2,o3) ho3 _ _ (by (repeat (refine Sub.cons rfl (by first | rfl | go_num) ?_));exact Sub.nil) fitA
    ·refine al fun c2=>?_
     refine nl ?_
     refine te (fun w hw=>⟨pt_at (b:=q1) (cs:=[.bool b1,v1,v2]) (T:=TRt) memA hw,pt_at (b:=q) (cs:=[.bool b2,v3,v4]) (T:=TRt) memA hw⟩) ?_
     refine t1 12 ?_
     refine cav (cap:=#[]) (vs:=[v2]) (sumW_tr v2 h2) ?_
     rintro _ _ ⟨rfl,rfl⟩
     refine nl ?_
     refine te (fun w hw=>⟨pt_at (b:=q1) (cs:=[.bool b1,v1,v2]) (T:=TRt) memA hw,pt_at (b:=q) (cs:=[.bool b2,v3,v4]) (T:=TRt) memA hw⟩) ?_
     refine t1 13 ?_
     refine ca hM2 ?_
     rintro _ _ ⟨o2,rfl,ho2,rfl⟩
     refine nl ?_
     refine te (fun w hw=>⟨pt_at (b:=q1) (cs:=[.bool b1,v1,v2]) (T:=TRt) memA hw,pt_at (b:=q) (cs:=[.bool b2,v3,v4]) (T:=TRt) memA hw⟩) ?_
     refine t1 14 ?_
     refine ca (hA o1 o2 ho1 ho2) ?_
     rintro _ _ ⟨o3,rfl,ho3,rfl⟩
     refine nl ?_
     refine te (fun w hw=>⟨pt_at (b:=q1) (cs:=[.bool b1,v1,v2]) (T:=TRt) memA hw,pt_at (b:=q) (cs:=[.bool b2,v3,v4]) (T:=TRt) memA hw⟩) ?_
     refine t1 16 ?_
     refine srz ?_
     refine nl ?_
     refine te (fun w hw=>⟨pt_at (b:=q1) (cs:=[.bool b1,v1,v2]) (T:=TRt) memA hw,pt_at (b:=q) (cs:=[.bool b2,v3,v4]) (T:=TRt) memA hw⟩) ?_
     refine t0 ?_
     repeat' first|refine xc ?_
     exact kb (c2,o3) ho3 _ _ (by (repeat (refine Sub.cons rfl (by first | rfl | go_num) ?_));exact Sub.nil) fitA
   ·refine al fun c2=>?_
    refine nl ?_
    refine te (fun w hw=>⟨pt_at (b:=q1) (cs:=[.bool b1,v1,v2]) (T:=TRt) memA hw,pt_at (b:=q) (cs:=[.bool b2,v3,v4]) (T:=TRt) memA hw⟩) ?_
    refine t1 6 ?_
    refine ca hM1 ?_
    rintro _ _ ⟨o1,rfl,ho1,rfl⟩
    refine nl ?_
    refine te (fun w hw=>⟨pt_at (b:=q1) (cs:=[.bool b1,v1,v2]) (T:=TRt) memA hw,pt_at (b:=q) (cs:=[.bool b2,v3,v4]) (T:=TRt) memA hw⟩) ?_
    refine t1 12 ?_
    refine cav (cap:=#[]) (vs:=[v2]) (sumW_tr v2 h2) ?_
    rintro _ _ ⟨rfl,rfl⟩
    refine nl ?_
    refine te (fun w hw=>⟨pt_at (b:=q1) (cs:=[.bool b1,v1,v2]) (T:=TRt) memA hw,pt_at (b:=q) (cs:=[.bool b2,v3,v4]) (T:=TRt) memA hw⟩) ?_
    refine t1 13 ?_
    refine ca hM2 ?_
    rintro _ _ ⟨o2,rfl,ho2,rfl⟩
    refine nl ?_
    refine te (fun w hw=>⟨pt_at (b:=q1) (cs:=[.bool b1,v1,v2]) (T:=TRt) memA hw,pt_at (b:=q) (cs:=[.bool b2,v3,v4]) (T:=TRt) memA hw⟩) ?_
    refine t1 14 ?_
    refine ca (hA o1 o2 ho1 ho2) ?_
    rintro _ _ ⟨o3,rfl,ho3,rfl⟩
    refine nl ?_
    refine te (fun w hw=>⟨pt_at (b:=q1) (cs:=[.bool b1,v1,v2]) (T:=TRt) memA hw,pt_at (b:=q) (cs:=[.bool b2,v3,v4]) (T:=TRt) memA hw⟩) ?_
    refine t1 16 ?_
    refine srz ?_
    refine nl ?_
    refine te (fun w hw=>⟨pt_at (b:=q1) (cs:=[.bool b1,v1,v2]) (T:=TRt) memA hw,pt_at (b:=q) (cs:=[.bool b2,v3,v4]) (T:=TRt) memA hw⟩) ?_
    refine t0 ?_
    repeat' first|refine xc ?_
    exact kb (c2,o3) ho3 _ _ (by (repeat (refine Sub.cons rfl (by first | rfl | go_num) ?_));exact Sub.nil) fitA
  ·refine al fun c2=>?_
   refine nl ?_
   refine te (fun w hw=>⟨pt_at (b:=q1) (cs:=[.bool b1,v1,v2]) (T:=TRt) memA hw,pt_at (b:=q) (cs:=[.bool b2,v3,v4]) (T:=TRt) memA hw⟩) ?_
   refine t1 5 ?_
   refine cav (cap:=#[]) (vs:=[v4]) (sumW_tr v4 h4) ?_
   rintro _ _ ⟨rfl,rfl⟩
   refine nl ?_
   refine te (fun w hw=>⟨pt_at (b:=q1) (cs:=[.bool b1,v1,v2]) (T:=TRt) memA hw,pt_at (b:=q) (cs:=[.bool b2,v3,v4]) (T:=TRt) memA hw⟩) ?_
   refine t1 6 ?_
   refine ca hM1 ?_
   rintro _ _ ⟨o1,rfl,ho1,rfl⟩
   refine nl ?_
   refine te (fun w hw=>⟨pt_at (b:=q1) (cs:=[.bool b1,v1,v2]) (T:=TRt) memA hw,pt_at (b:=q) (cs:=[.bool b2,v3,v4]) (T:=TRt) memA hw⟩) ?_
   refine t1 12 ?_
   refine cav (cap:=#[]) (vs:=[v2]) (sumW_tr v2 h2) ?_
   rintro _ _ ⟨rfl,rfl⟩
   refine nl ?_
   refine te (fun w hw=>⟨pt_at (b:=q1) (cs:=[.bool b1,v1,v2]) (T:=TRt) memA hw,pt_at (b:=q) (cs:=[.bool b2,v3,v4]) (T:=TRt) memA hw⟩) ?_
   refine t1 13 ?_
   refine ca hM2 ?_
   rintro _ _ ⟨o2,rfl,ho2,rfl⟩
   refine nl ?_
   refine te (fun w hw=>⟨pt_at (b:=q1) (cs:=[.bool b1,v1,v2]) (T:=TRt) memA hw,pt_at (b:=q) (cs:=[.bool b2,v3,v4]) (T:=TRt) memA hw⟩) ?_
   refine t1 14 ?_
   refine ca (hA o1 o2 ho1 ho2) ?_
   rintro _ _ ⟨o3,rfl,ho3,rfl⟩
   refine nl ?_
   refine te (fun w hw=>⟨pt_at (b:=q1) (cs:=[.bool b1,v1,v2]) (T:=TRt) memA hw,pt_at (b:=q) (cs:=[.bool b2,v3,v4]) (T:=TRt) memA hw⟩) ?_
   refine t1 16 ?_
   refine srz ?_
   refine nl ?_
   refine te (fun w hw=>⟨pt_at (b:=q1) (cs:=[.bool b1,v1,v2]) (T:=TRt) memA hw,pt_at (b:=q) (cs:=[.bool b2,v3,v4]) (T:=TRt) memA hw⟩) ?_
   refine t0 ?_
   repeat' first|refine xc ?_
   exact kb (c2,o3) ho3 _ _ (by (repeat (refine Sub.cons rfl (by first | rfl | go_num) ?_));exact Sub.nil) fitA
end Go.Art
namespace Go.Art
open Go Go.RowKit
def adr (v:Value) (m:Nat):Addr:=(addrAt v 0).add m
theorem adr_add (v:Value) (m o:Nat):(adr v m).add o = adr v (m + o):=Deep.add_add _ _ _
def SlW (w:World) (v:Value) (n:Nat) (xs:List Value):Prop:=
 ∃ a cap,v = .slice a n cap∧n ≤ cap∧cap ≤ maxLen∧(0 < n→∃ x,a = some x)∧∀ i u,xs[i]? = some u→∃ x,a = some x∧w.cell? (x.add i) = some u
theorem SlW.cell {w:World} {v:Value} {n:Nat} {xs:List Value} (h:SlW w v n xs) {i:Nat} {u:Value} (hi:xs[i]? = some u):w.cell? (adr v i) = some u:=by
 obtain ⟨a,cap,rfl,_,_,_,hc⟩:=h
 obtain ⟨x,rfl,hx⟩:=hc i u hi
 show w.cell? ((x.add 0).add i) = _
 rw [Deep.add_add,Nat.zero_add];exact hx
theorem SlW.len {w:World} {v:Value} {n:Nat} {xs:List Value} (h:SlW w v n xs):n ≤ 9223372036854775807:=by
 obtain ⟨_,cap,_,h1,h2,_⟩:=h
 unfold maxLen at h2;omega
theorem add_block (x:Addr) (i:Nat):(x.add i).block = x.block:=by unfold Addr.add;split <;> rfl
def vwf (v:Value) (n:Nat) (xs:List Value):Ch where
 wr:=fun _=>False
 rd:=fun _=>False
 bd:=fun x=>xs ≠ []∧v.ownBlock = some x
 P:=fun w=>SlW w v n xs
 loc:=fun {w w'} h hb=>by
  obtain ⟨a,cap,rfl,h1,h2,h0,h3⟩:=h
  refine ⟨a,cap,rfl,h1,h2,h0,fun i u hi=>?_⟩
  obtain ⟨x,rfl,hx⟩:=h3 i u hi
  exact ⟨x,rfl,(World.cell?_of_block (by rw [add_block];exact hb _ (.inr (.inr ⟨by rintro rfl;simp at hi,rfl⟩)))).trans hx⟩
 lt:=fun {w b} h hb=>by
  rcases hb with hb | hb | ⟨h4,h5⟩
  ·exact hb.elim
  ·exact hb.elim
  ·obtain ⟨a,cap,rfl,h1,h2,h0,h3⟩:=h
   cases xs with
   | nil=>exact absurd rfl h4
   | cons u r=>
    obtain ⟨x,rfl,hx⟩:=h3 0 u rfl
    have:=World.block_lt_of_cell? w _ hx
    rw [add_block] at this
    simp only [Value.ownBlock,Option.some.injEq] at h5
    rw [← h5];exact this
instance (v:Value) (n:Nat) (xs:List Value):Lent (vwf v n xs):=⟨fun _=>⟨fun h=>h,fun h=>h⟩⟩
theorem has_vwf {F:List Ch} {v:Value} {n:Nat} {xs:List Value} (h:vwf v n xs ∈ F):Has F (vwf v n xs):=⟨fun _ hw=>hw.h _ h,fun _ h=>h,fun _ h=>h,fun _ hb=>⟨_,h,hb⟩⟩
theorem has_wf {A:List Ch} {w:World} {v:Value} {n:Nat} {xs:List Value} (h:vwf v n xs ∈ A) (hw:Sat A w):SlW w v n xs:=hw.h (vwf v n xs) h
theorem flat_row:∀ {rs:List (List Value)} {sz:Nat},(∀ r ∈ rs,r.length = sz)→∀ {i:Nat} {r:List Value},rs[i]? = some r→(rs.flatten.drop (sz * i)).take sz = r
 | [],_,_,i,r,h=>by simp at h
 | a :: rs,sz,hl,0,r,h=>by
  simp at h;subst h
  have:=hl a (by simp)
  simp [List.take_append,this,List.take_of_length_le]
 | a :: rs,sz,hl,i + 1,r,h=>by
  have ha:=hl a (by simp)
  have ih:=flat_row (rs:=rs) (sz:=sz) (fun r hr=>hl r (by simp [hr])) (i:=i) (r:=r) (by simpa using h)
  rw [List.flatten_cons,show sz * (i + 1) = a.length + sz * i by rw [ha,Nat.mul_succ];omega,List.drop_append,List.drop_eq_nil_of_le (by omega),List.nil_append,Nat.add_sub_cancel_left]
  exact ih
section
variable {P:Program} {E:Env P} {n:Sh} {X:Cx} {s:List K} {fr:Fr} {A A':List Ch} {ops:Array Oper} {rest:List Oper} {d m N sz by_:Nat} {ty t el:TypeId} {pos:String} {after:Array Edge} {v u z:Value} {x y:Operand} {xs vs:List Value} {dt:TypeDesc} {k1:IntKind} {w:World} {fs:Array Field} {f:Nat} {fld:Field}
theorem R_idxW {i:Int} (ht:lk E.und t = some (.slice el)) (he:lk E.inf el = some (z,sz,by_)) (hx:ev fr x = some v) (hy:ev fr y = some (.int k1 i)) (hS:SlW w v N xs) (h:0 ≤ i∧i < N):OpV P n fr (.indexAddr t x y) ty w (.pointer (some (adr v (sz * i.toNat)))) w:=⟨fun b hb _ _ _ _=>by
 obtain ⟨a,cap,rfl,h1,h2,h0,hc⟩:=hS
 obtain ⟨inf,hi,_,hsz,_⟩:=E.info he
 obtain ⟨ad,rfl⟩:=h0 (by omega)
 simp only [execOp,hb.ev hx,hb.ev hy]
 simp [Instr.indexAt,asIntOf,run_underlying (P:=P) (E.un ht) w,h,sizeOf,typeInfo,hi,hsz,adr,addrAt,Deep.add_add,Nat.mul_comm]⟩
theorem R_fldW (ht:lk E.und t = some (.struct fs)) (hf:fs[f]? = some fld) (he:lk E.inf fld.type = some (z,sz,by_)) (hsz:Nat.beq sz 0 = false) (hx:ev fr x = some (.pointer (some (adr v m)))):OpV P n fr (.fieldAddr t x f) ty w (.pointer (some (adr v (m + fld.offset)))) w:=⟨fun a ha _ _ _ _=>by
 obtain ⟨inf,hi,_,hs,_⟩:=E.info he
 have h0:¬ sz = 0:=nbeq_ne hsz
 simp only [execOp,ha.ev hx]
 simp [Instr.fieldAt,run_underlying (P:=P) (E.un ht) w,hf,Instr.sureAddr,fieldPlace,sizeOf,typeInfo,hi,hs,h0,adr_add]⟩
theorem R_loadW (ht:lk E.und t = some dt) (hg:aggB dt = true) (hi:lk E.inf t = some (z,sz,by_)) (hx:ev fr x = some (.pointer (some (adr v m)))) (hS:SlW w v N xs) (hv:(xs.drop m).take sz = vs) (hl:vs.length = sz):OpV P n fr (.load t x) ty w (.agg vs.toArray) w:=⟨fun a ha _ _ _ _=>by
 obtain ⟨inf,h1,_,h2,_⟩:=E.info hi
 have h3:=run_loadCells_list (P:=P) w (adr v m) vs (fun j u hm=>by
  rw [adr_add]
  refine hS.cell ?_
  rw [← hv,List.getElem?_take] at hm
  split at hm
  ·rw [List.getElem?_drop] at hm;simpa using hm
  ·cases hm)
 rw [hl] at h3
 simp only [execOp,ha.ev hx]
 simp [Instr.loadAt,Instr.sureAddr,loadVar,aggB_t (w:=w) ht hg,sizeOf,typeInfo,h1,h2,h3]⟩
end
end Go.Art
namespace Go.Art
open Go Go.Proofs Go.RowKit
def OwnV (w:World) (e:TypeId) (sz:Nat) (v:Value) (n:Nat) (xs:List Value):Prop:=
 (v = .slice none 0 0∧n = 0∧xs = []) ∨
 ∃ b cap cur,v = .slice (some ⟨b,0,none⟩) n cap∧w.heap[b]? = some (.cells cur e (0,0))∧n ≤ cap∧cap ≤ maxLen∧cur.size = cap * sz∧xs.length = n * sz∧cur.toList.take (n * sz) = xs
theorem OwnV.blt {w:World} {e:TypeId} {sz n:Nat} {v:Value} {xs:List Value} (h:OwnV w e sz v n xs) {b:Nat} (hb:v.ownBlock = some b):b < w.heap.size:=by
 rcases h with ⟨rfl,_⟩ | ⟨b',cap,cur,rfl,h2,_⟩
 ·cases hb
 ·cases hb;exact lt_of_heap h2
theorem OwnV.keep {w w':World} {e:TypeId} {sz n:Nat} {v:Value} {xs:List Value} (h:OwnV w e sz v n xs) (hb:∀ b,v.ownBlock = some b→w'.heap[b]? = w.heap[b]?):OwnV w' e sz v n xs:=by
 rcases h with h | ⟨b,cap,cur,rfl,h2,h3⟩
 ·exact .inl h
 ·exact .inr ⟨b,cap,cur,rfl,(hb b rfl).trans h2,h3⟩
theorem OwnV.one {w:World} {e:TypeId} {sz n:Nat} {v:Value} {xs:List Value} (h:OwnV w e sz v n xs):v.oneCell' = true:=by
 rcases h with ⟨rfl,_⟩ | ⟨_,_,_,rfl,_⟩ <;> rfl
theorem OwnV.slw {w:World} {e:TypeId} {sz n:Nat} {v:Value} {xs:List Value} (h:OwnV w e sz v n xs):SlW w v n xs:=by
 rcases h with ⟨rfl,rfl,rfl⟩ | ⟨b,cap,cur,rfl,hb,h2,h3,h4,h5,h6⟩
 ·exact ⟨none,0,rfl,Nat.le_refl _,by unfold maxLen;omega,fun h=>absurd h (Nat.lt_irrefl _),fun i u h=>by simp at h⟩
 ·refine ⟨some ⟨b,0,none⟩,cap,rfl,h2,h3,fun _=>⟨_,rfl⟩,fun i u hi=>⟨_,rfl,?_⟩⟩
  rw [Addr.add_lit,Nat.zero_add,cell_of_row w b i cur e (0,0) hb]
  rw [← h6,List.getElem?_take] at hi
  split at hi
  ·simpa using hi
  ·cases hi
def oww (e:TypeId) (sz:Nat) (v:Value) (n:Nat) (xs:List Value):Ch where
 wr:=fun x=>v.ownBlock = some x
 rd:=fun _=>False
 bd:=fun _=>False
 P:=fun w=>OwnV w e sz v n xs
 loc:=fun h hb=>h.keep fun b h=>hb b (.inl h)
 lt:=fun h hb=>by rcases hb with hb | hb | hb;exact h.blt hb;exact hb.elim;exact hb.elim
instance (e:TypeId) (sz:Nat) (v:Value) (n:Nat) (xs:List Value):NoB (oww e sz v n xs):=⟨fun _ h=>h⟩
theorem has_oww {F:List Ch} {e:TypeId} {sz:Nat} {v:Value} {n:Nat} {xs:List Value} (h:oww e sz v n xs ∈ F):Has F (vwf v n xs):=
 ⟨fun _ hw=>OwnV.slw (hw.h (oww e sz v n xs) h),fun _ h=>h,fun _ h=>h,fun b hb=>⟨_,h,by rcases hb with hb | hb | hb;exact hb.elim;exact hb.elim;exact .inl hb.2⟩⟩
theorem oww_nil (e:TypeId) (sz:Nat) (A:List Ch):Im A (oww e sz (.slice none 0 0) 0 [] :: A):=by
 have h0:∀ b,¬ (oww e sz (.slice none 0 0) 0 []).ft b:=by rintro b (h | h | h);cases h;exact h;exact h
 refine ⟨fun w hw=>Sat.cons.2 ⟨.inl ⟨rfl,rfl,rfl⟩,fun a _=>⟨fun b hb=>absurd (.inl hb) (h0 b),fun b _ hf=>h0 b hf⟩,hw⟩,fun b hb=>?_,fun b hb=>?_,fun b hb=>?_⟩
 ·obtain ⟨x,hx,hb⟩:=hb
  rcases List.mem_cons.1 hx with rfl | hx
  ·exact absurd (.inl hb) (h0 b)
  ·exact ⟨x,hx,hb⟩
 ·obtain ⟨x,hx,hb⟩:=hb
  rcases List.mem_cons.1 hx with rfl | hx
  ·exact absurd (.inr (.inl hb)) (h0 b)
  ·exact .inr ⟨x,hx,hb⟩
 ·obtain ⟨x,hx,hb⟩:=hb
  rcases List.mem_cons.1 hx with rfl | hx
  ·exact absurd hb (h0 b)
  ·exact ⟨x,hx,hb⟩
structure Wid (sz:Nat) (vs:List Value) (xs:List Value):Prop where
 eq:vs.flatMap (fun v=>v.cells.toList) = xs
 all:∀ v ∈ vs,v.cells.size = sz
theorem Wid.nil {sz:Nat}:Wid sz [] []:=⟨rfl,fun _ h=>nomatch h⟩
theorem Wid.agg {sz:Nat} {cs:List Value} {vs xs:List Value} (hs:cs.length = sz) (k:Wid sz vs xs):Wid sz (.agg cs.toArray :: vs) (cs ++ xs):=⟨by rw [List.flatMap_cons,k.eq];rfl,fun v hv=>by
 rcases List.mem_cons.1 hv with rfl | hv
 ·exact hs
 ·exact k.all v hv⟩
theorem Wid.len {sz:Nat} {vs xs:List Value} (h:Wid sz vs xs):xs.length = vs.length * sz:=by
 obtain ⟨h1,h2⟩:=h
 subst h1
 induction vs with
 | nil=>simp
 | cons v r ih=>rw [List.flatMap_cons,List.length_append,ih (fun u hu=>h2 u (by simp [hu])),List.length_cons,Nat.succ_mul,Array.length_toList,h2 v (by simp)];omega
theorem fill_wide {sz:Nat}:∀ (vs:List Value) (j:Nat) (cells:Array Value),(∀ v ∈ vs,v.cells.size = sz)→(j + vs.length) * sz ≤ cells.size →
  Instr.fill (fun i=>some (i * sz,sz)) cells (idxP j vs) = some (cells.toList.take (j * sz) ++ vs.flatMap (fun v=>v.cells.toList) ++ cells.toList.drop ((j + vs.length) * sz)).toArray
 | [],j,cells,_,_=>by simp [idxP,Instr.fill]
 | v :: r,j,cells,h1,hl=>by
  have hv:=h1 v (by simp)
  have hle:(j + (r.length + 1)) * sz = j * sz + sz + r.length * sz:=by rw [Nat.add_mul,Nat.succ_mul];omega
  simp only [List.length_cons] at hl
  rw [hle] at hl
  have hb:¬ (j * sz + sz > cells.size):=by omega
  simp only [idxP,Instr.fill,hv]
  simp only [ne_eq,not_true_eq_false,decide_false,Bool.false_or,decide_eq_true_eq,hb,if_false]
  have hcl:v.cells.toList.length = sz:=by rw [Array.length_toList];exact hv
  have e:(v.cells.zipIdx.foldl (fun cs (x:Value × Nat)=>cs.setIfInBounds (j * sz + x.2) x.1) cells) = (cells.toList.take (j * sz) ++ v.cells.toList ++ cells.toList.drop (j * sz + sz)).toArray:=by
   have:=foldl_set v.cells.toList (j * sz) 0 cells (by rw [hcl];omega)
   simp only [Nat.add_zero] at this
   rw [hcl] at this
   rw [← Array.foldl_toList,Array.toList_zipIdx]
   exact this
  show Instr.fill _ (v.cells.zipIdx.foldl (fun cs (x:Value × Nat)=>cs.setIfInBounds (j * sz + x.2) x.1) cells) _ = _
  have hct:cells.toList.length = cells.size:=Array.length_toList
  have hrec:=fill_wide r (j + 1) (cells.toList.take (j * sz) ++ v.cells.toList ++ cells.toList.drop (j * sz + sz)).toArray (fun u hu=>h1 u (by simp [hu])) (by
   have:(j + 1 + r.length) * sz = j * sz + sz + r.length * sz:=by rw [Nat.add_mul,Nat.succ_mul]
   rw [this,List.size_toArray]
   simp only [List.length_append,List.length_take,List.length_drop,hcl,hct]
   omega)
  rw [e,hrec]
  congr 2
  have e1:(j + 1) * sz = j * sz + sz:=Nat.succ_mul _ _
  have e2:(j + 1 + r.length) * sz = j * sz + sz + r.length * sz:=by rw [Nat.add_mul,Nat.succ_mul]
  have hl1:(cells.toList.take (j * sz) ++ v.cells.toList).length = j * sz + sz:=by simp only [List.length_append,List.length_take,hcl,hct];omega
  rw [List.flatMap_cons,List.length_cons,hle,e1,e2]
  simp only [List.toList_toArray]
  rw [List.take_left' hl1,List.drop_append,List.drop_eq_nil_of_le (by omega),List.nil_append,hl1,List.drop_drop,Nat.add_sub_cancel_left]
  simp only [List.append_assoc]
section
variable {P:Program} {E:Env P} {n:Sh} {X:Cx} {s:List K} {fr:Fr} {A A':List Ch} {ops:Array Oper} {rest:List Oper} {d m N M sz by_:Nat} {ty t el e:TypeId} {pos:String} {after:Array Edge} {v u z:Value} {x y:Operand} {xs ys vs:List Value} {dt:TypeDesc} {k1:IntKind} {w:World}
theorem has_len {F:List Ch} (h:Has F (vwf v N xs)) (w:World) (hw:Sat F w):N ≤ 9223372036854775807:=(h.P w hw).len
theorem lnw (k:TO E n X s ops rest ((d,I N) :: fr) A) (hx:ev fr x = some v:=by rfl) (hm:Has A (vwf v N xs):=by exact hasA) (ht:lk E.und t = some (.slice el):=by rfl) (hd:Nat.blt d n.n = true:=by rfl) :
  TO E n X s ops (⟨some d,.call ⟨.builtin .len,#[x],#[t]⟩,ty,pos,after,none⟩ :: rest) fr A:=TO.val (v:=I N) (fun w h=>⟨fun a ha _ _ _ _=>by
 obtain ⟨_,cap,rfl,_⟩:=(hm.P w h:SlW w v N xs)
 simp only [execOp,resolve]
 simp [ha.ev hx,invoke,builtin,Builtin.len_,run_underlying (P:=P) (E.un ht) w,goInt]⟩) k hd
theorem ixws {i:Int} (k:TO E n X s ops rest ((d,.pointer (some (adr v (sz * i.toNat)))) :: fr) A) (hx:ev fr x = some v:=by rfl) (hy:ev fr y = some (.int k1 i):=by rfl) (hm:Has A (vwf v N xs):=by exact hasA) (hb:0 ≤ i∧i < N:=by omega)
  (ht:lk E.und t = some (.slice el):=by rfl) (he:lk E.inf el = some (z,sz,by_):=by rfl) (hd:Nat.blt d n.n = true:=by rfl):TO E n X s ops (⟨some d,.indexAddr t x y,ty,pos,after,none⟩ :: rest) fr A:=TO.val (fun w h=>R_idxW ht he hx hy (hm.P w h) hb) k hd
theorem ldaw (hv:(xs.drop m).take sz = vs) (k:TO E n X s ops rest ((d,.agg vs.toArray) :: fr) A) (hx:ev fr x = some (.pointer (some (adr v m))):=by rfl) (hm:Has A (vwf v N xs):=by exact hasA) (ht:lk E.und t = some dt:=by rfl) (hg:aggB dt = true:=by rfl) (hi:lk E.inf t = some (z,sz,by_):=by rfl) (hl:vs.length = sz:=by rfl) (hd:Nat.blt d n.n = true:=by rfl) :
  TO E n X s ops (⟨some d,.load t x,ty,pos,after,none⟩ :: rest) fr A:=TO.val (fun w h=>R_loadW ht hg hi hx (hm.P w h) hv hl) k hd
theorem slws {parts:List (Nat × Operand)} (k:∀ g,TO E n X s ops rest ((d,.slice (some ⟨g,0,none⟩) m m) :: fr) (oww e sz (.slice (some ⟨g,0,none⟩) m m) m xs :: A)) (hp:parts = idxP 0 (parts.map (·.2)):=by rfl) (hv:evs fr (parts.map (·.2)) = some vs:=by rfl)
  (hw:Wid sz vs xs:=by (repeat (first | exact Wid.nil | (apply Wid.agg;focus rfl)));first | done | fail) (hk:vs.length = m:=by rfl) (hk0:Nat.blt 0 (m * sz) = true:=by rfl) (hkm:Nat.ble (m * sz) 16777216 = true:=by rfl) (ht:lk E.und t = some (.slice e):=by rfl) (he:lk E.inf e = some (z,sz,by_):=by rfl) (hd:Nat.blt d n.n = true:=by rfl) :
  TO E n X s ops (⟨some d,.buildSlice t m parts.toArray,ty,pos,after,none⟩ :: rest) fr A:=⟨fun w hw'=>by
 subst hk
 obtain ⟨inf,hi,hiz,his,_⟩:=E.info he
 have hkm':=Nat.le_of_ble_eq_true hkm
 have hk0':=nblt_lt hk0
 have hwl:=hw.len
 refine SO_v hd (w':=w.alloc (.cells xs.toArray e)) ⟨fun a ha' _ _ _ _=>?_⟩ ((k w.heap.size).run _ (hw'.new (Upd.alloc w _) (.inr ⟨w.heap.size,vs.length,xs.toArray,rfl,heap_alloc_new w _,Nat.le_refl _,?_,by simp [hwl],hwl,by simp [← hwl]⟩) (by rintro b (h | h | h);(have h:some w.heap.size = some b:=h);cases h;exact Nat.le_refl _;exact h.elim;exact h.elim) (fun _ h=>h)))
 ·have hmap:(parts.map fun (x:Nat × Operand)=>(x.1,a.eval x.2)) = idxP 0 vs:=by
   have hev:=ha'.evs hv
   have gen:∀ (l:List Operand) (i:Nat),(idxP i l).map (fun (x:Nat × Operand)=>(x.1,a.eval x.2)) = idxP i (l.map a.eval):=by
    intro l
    induction l with
    | nil=>intro i;rfl
    | cons o r ih=>intro i;simp [idxP,ih]
   rw [hp,gen,hev]
  have hfill:=fill_wide (sz:=sz) vs 0 ((Array.range (vs.length * sz)).map (z.cells[· % z.cells.size]!)) hw.all (by simp)
  rw [hw.eq] at hfill
  have hres:((List.take (0 * sz) ((Array.range (vs.length * sz)).map (z.cells[· % z.cells.size]!)).toList ++ xs ++ List.drop ((0 + vs.length) * sz) ((Array.range (vs.length * sz)).map (z.cells[· % z.cells.size]!)).toList).toArray) = xs.toArray:=by
   rw [List.drop_eq_nil_of_le (by simp)];simp
  rw [hres] at hfill
  have hn0:¬ vs.length * sz = 0:=by omega
  have hn1:¬ 2 ^ 24 < vs.length * sz:=by omega
  have hn2:¬ (vs.length = 0∨sz = 0):=fun h=>hn0 (by rcases h with h | h <;> rw [h] <;> simp)
  have hgo:(Instr.buildSlice t vs.length ((parts.toArray.map fun (x:Nat × Operand)=>(x.1,a.eval x.2)))).run P w = .ok (.slice (some ⟨w.heap.size,0,none⟩) vs.length vs.length) (w.alloc (.cells xs.toArray e)):=by
   have hl:((parts.toArray.map fun (x:Nat × Operand)=>(x.1,a.eval x.2))).toList = idxP 0 vs:=by simp [hmap]
   simp only [Instr.buildSlice,hl]
   simp [run_underlying (P:=P) (E.un ht) w,sizeOf,typeInfo,hi,his,zeroValue,hiz,hn0,hn1,hn2,hfill,newRow,newObj,Sem.run]
  simp only [execOp]
  show Sem.run P (do let v ← Instr.buildSlice t vs.length ((parts.toArray.map fun (x:Nat × Operand)=>(x.1,a.eval x.2)));pure (Next.value v)) w = _
  rw [List.map_toArray] at hgo
  simp [hgo]
 ·unfold maxLen
  have:vs.length ≤ vs.length * sz:=Nat.le_mul_of_pos_right _ (Nat.pos_of_ne_zero fun h=>by rw [h] at hk0';simp at hk0')
  omega⟩
theorem run_appendV (t':TypeId) (w:World) (ht:lk E.und t = some (.slice e)) (he:lk E.inf e = some (z,sz,by_)) (hz:z.cells.size = sz) (hown:OwnV w e sz v N xs) (hu:SlW w u M ys) (hys:ys.length = M * sz) (h1:∀ c ∈ ys,c.oneCell' = true) (hM:0 < M)
  (hby:(N + M) * by_ ≤ 140737488355328) (h63:N + M ≤ 4611686018427387903) :
  ∃ v' w',(Builtin.append_ #[t,t] t' #[v,u]).run P w = .ok v' w'∧OwnV w' e sz v' (N + M) (xs ++ ys)∧Upd w w' v.ownBlock.toList∧∀ b,v'.ownBlock = some b→v.ownBlock = some b∨w.heap.size ≤ b:=by
 obtain ⟨inf,hi,hiz,his,hib⟩:=E.info he
 have ht':=E.un ht
 obtain ⟨a,c,rfl,hc1,hc2,h0,hcell⟩:=hu
 obtain ⟨ad,rfl⟩:=h0 hM
 have hnews:∀ j c,ys[j]? = some c→w.cell? (ad.add j) = some c:=fun j c hj=>by
  obtain ⟨y,hy,hc⟩:=hcell j c hj
  cases hy;exact hc
 have hl:ys.length = M * inf.size:=by rw [his,hys]
 subst hib
 have hupd:∀ (o:Obj) (S:List Nat),Upd w (w.drew.alloc o) S:=fun o S=>((Upd.drew w).trans (Upd.alloc w.drew o)).weak (by simp)
 have grow:∀ (old:Nat),xs.length = N * sz→OwnV (w.drew.alloc (.cells (xs.toArray ++ ys.toArray ++ Builtin.zeroCells z.cells (grownCap w (N + M) old e - (N + M))) e)) e sz
   (.slice (some ⟨w.heap.size,0,none⟩) (N + M) (grownCap w (N + M) old e)) (N + M) (xs ++ ys):=by
  intro old hxs
  have hge:=grownCap_ge w (N + M) old e
  obtain ⟨q,hq⟩:=Nat.exists_eq_add_of_le hge
  refine .inr ⟨w.heap.size,grownCap w (N + M) old e,_,rfl,heap_alloc_new w.drew _,hge,grownCap_le_maxLen w _ old e (by unfold maxLen;omega),?_,?_,?_⟩
  ·simp only [Array.size_append,List.size_toArray,size_zeroCells,hz,hxs,hys,hq,Nat.add_sub_cancel_left,Nat.add_mul]
  ·rw [List.length_append,hxs,hys,Nat.add_mul]
  ·simp only [Array.toList_append]
   exact List.take_left' (by rw [List.length_append,hxs,hys,Nat.add_mul])
 rcases hown with ⟨rfl,rfl,rfl⟩ | ⟨b,cap,cur,rfl,hb,h2,h3,h4,h5,h6⟩
 ·have hr:=run_append_nil (P:=P) w t t' e inf z ht' hi hiz ad M c ys hl hnews hM (by omega) (by rw [Nat.zero_add] at hby;omega)
  have hg:=grow 0 (by simp)
  simp only [Nat.zero_add,List.nil_append,Array.empty_append] at hg ⊢
  exact ⟨_,_,hr,hg,hupd _ _,fun b' hb'=>by cases hb';exact .inr (Nat.le_refl _)⟩
 ·by_cases hroom:N + M ≤ cap
  ·have hle:(N + M) * sz ≤ cap * sz:=Nat.mul_le_mul_right sz hroom
   rw [Nat.add_mul] at hle
   have hr:=run_append_room (P:=P) w t t' e inf ht' hi b N cap cur hb ad M c ys hl hnews h1 hroom (by rw [his,h4,hys];exact hle)
   rw [his] at hr
   have hct:cur.toList.length = cur.size:=Array.length_toList
   refine ⟨_,_,hr,.inr ⟨b,cap,_,rfl,setRow_heap w b cur _ e _ hb,hroom,h3,?_,?_,?_⟩,Upd.setRow w b _,fun _ h=>.inl h⟩
   ·simp only [List.size_toArray,List.length_append,List.length_take,List.length_drop,hct,hys];omega
   ·rw [List.length_append,h5,hys,Nat.add_mul]
   ·rw [h6]
    exact List.take_left' (by rw [List.length_append,h5,hys,Nat.add_mul])
  ·have hc:∀ j c,xs[j]? = some c→w.cell? ((⟨b,0,none⟩ : Addr).add j) = some c:=fun j c hj=>by
    rw [Addr.add_lit,Nat.zero_add,cell_of_row w b j cur e (0,0) hb]
    rw [← h6,List.getElem?_take] at hj
    split at hj
    ·simpa using hj
    ·cases hj
   have hr:=run_append_grow (P:=P) w t t' e inf z ht' hi hiz ⟨b,0,none⟩ N cap xs (by rw [his];exact h5) hc ad M c ys hl hnews (by omega) (by omega) (growslice_fits (by omega) hby)
   exact ⟨_,_,hr,grow cap h5,hupd _ _,fun b' hb'=>by cases hb';exact .inr (Nat.le_refl _)⟩
theorem apw (hM:0 < M) (hys:ys.length = M * sz) (h1:∀ c ∈ ys,c.oneCell' = true) (k:∀ v',v'.oneCell' = true→TO E n X s ops rest ((d,v') :: fr) (oww e sz v' (N + M) (xs ++ ys) :: A')) (hx:ev fr x = some v:=by rfl) (hy:ev fr y = some u:=by rfl) (hm:Tk (oww e sz v N xs) A A':=by exact tkA) (hu:Has A' (vwf u M ys):=by exact hasA)
  (ht:lk E.und t = some (.slice e):=by rfl) (he:lk E.inf e = some (z,sz,by_):=by rfl) (hz:z.cells.size = sz:=by rfl) (hby:(N + M) * by_ ≤ 140737488355328:=by omega) (h63:N + M ≤ 4611686018427387903:=by omega) (hd:Nat.blt d n.n = true:=by rfl) :
  TO E n X s ops (⟨some d,.call ⟨.builtin .append,#[x,y],#[t,t]⟩,ty,pos,after,none⟩ :: rest) fr A:=⟨fun w hw=>by
 have h2:=hw.im hm
 have h3:OwnV w e sz v N xs:=h2.mem (List.Mem.head _)
 have h4:SlW w u M ys:=hu.P w (Sat.cons.1 h2.sat).2.2
 obtain ⟨v',w',hr,hO,hU,hW⟩:=run_appendV (P:=P) ty w ht he hz h3 h4 hys h1 hM hby h63
 refine SO_v hd (w':=w') (v:=v') ⟨fun a ha' _ _ _ _=>?_⟩ ((k v' hO.one).run w' (h2.set hU (fun b hb=>.inl (by show v.ownBlock = some b;simpa using hb)) hO ?_ (fun _ h=>h)))
 ·simp only [execOp,resolve]
  simp [ha'.ev hx,ha'.ev hy,invoke,builtin,hr]
 ·rintro b (hb' | hb' | hb')
  ·exact hW b hb'
  ·exact hb'.elim
  ·exact hb'.elim⟩
end
end Go.Art
