/- Texts put together: Gc Rq Vb Vc Vg Vm StopO Vi Vj Vk As Vh Gp Ga. Conditions: none. -/
import Derived.Test.YtadfljaebfbccaaGreatWDg
set_option linter.unusedSimpArgs false
set_option linter.unusedVariables false
namespace Go.Art
open Go Go.Proofs Go.RowKit
attribute [local irreducible] Fit pt own ro vw mpc lpt vels rels mow lrc dfr
theorem RSoCheck_tr (s:Value) (t:List Int) (k:Int):Tr Tryz.prog 34 [s,I k] [vw s (Is t)] [] fun v D=>v = I (solE t k)∧D = []:=by
 by_cases hg:k < 1∨65536 < k∨t.length < 1∨k < t.length
 ·rw [show solE t k = 13 from if_pos hg]
  refine Tr.enter env _ Tryz.func34 (by kernel_rfl) rfl Tryz.ntmps34 rfl (by repeat (first | exact has00 | refine has01 ?_)) fun w0=>?_
  refine TC.leni (l:=t) fun htl=>?_
  repeat' first|(refine wo ?_;first|(refine ao ?_;first|refine oa ?_)|refine oa ?_|refine lnm ?_|refine gy ?_|refine gn ?_|(refine gsi (fun hB=>?_) (fun hB=>?_) <;> try (exfalso;omega)))|(refine gc ?_;first|refine ct ?_|(refine ci (fun hB=>?_) (fun hB=>?_) <;> try (exfalso;omega)))|refine sq ?_|refine rg ?_|refine xc ?_|refine nl ?_|refine rt ?_
  all_goals first | exact r1 ⟨rfl,rfl⟩ | (exfalso;omega)
 rw [show solE t k = if t.all wOk && t.any wPos then 0 else 13 from if_neg hg]
 refine Tr.enter env _ Tryz.func34 (by kernel_rfl) rfl Tryz.ntmps34 rfl (by repeat (first | exact has00 | refine has01 ?_)) fun w0=>?_
 refine TC.leni (l:=t) fun htl=>?_
 repeat' first|(refine wo ?_;first|(refine ao ?_;first|refine oa ?_)|refine oa ?_|refine lnm ?_|refine gy ?_|(refine gsi (fun hB=>?_) (fun hB=>?_) <;> try (exfalso;omega)))|(refine gc ?_;first|(refine ci (fun hB=>?_) (fun hB=>?_) <;> try (exfalso;omega)))|refine sq ?_|refine rg ?_|refine xc ?_|refine nl ?_|refine sk ?_|refine bk ?_
 refine TC.loop (ι:=Nat × Bool) (fun i=>[(6,I i.1),(5,.bool i.2)]) (fun _=>[]) (fun i=>i.1 ≤ t.length∧(t.take i.1).all wOk = true∧i.2 = (t.take i.1).any wPos) (fun i=>t.length - i.1) (0,false) [0,1] ⟨by simp,rfl,rfl⟩ ?_
 rintro ⟨i,so⟩ ⟨h1,h2,h3⟩
 dsimp only at h1 h2 h3 ⊢
 by_cases hi:i < t.length
 ·have ha:=take_all (p:=wOk) hi
  have hb:=take_any (p:=wPos) hi
  have hc:=all_of_take (p:=wOk) hi
  generalize hy:t.getD i 0 = y at *
  repeat' first|refine lie hy ?_|(refine wo ?_;first|(refine ao ?_;first|refine aw ?_|refine oa ?_)|refine oa ?_|refine lnm ?_|refine ixmn ?_|refine gy ?_|refine gn ?_|(refine gsi (fun hB=>?_) (fun hB=>?_) <;> try (exfalso;omega))|(refine gs (fun hB=>?_) (fun hB=>?_) <;> try (exfalso;omega)))|(refine gc ?_;first|refine ct ?_|(refine ci (fun hB=>?_) (fun hB=>?_) <;> try (exfalso;omega)))|refine sq ?_|refine rg ?_|refine xc ?_|refine nl ?_|refine sk ?_|refine bk ?_|refine rt ?_|refine xb ?_
  ·refine r1 ⟨?_,rfl⟩
   rw [hc (by simp [wOk];omega)];rfl
  ·refine r1 ⟨?_,rfl⟩
   rw [hc (by simp [wOk];omega)];rfl
  ·have hw:wOk y = true:=by simp [wOk];omega
   exact lp (i + 1,true) ⟨by dsimp only;omega,by dsimp only;rw [ha,h2,hw];rfl,by dsimp only;rw [hb,← h3,hB];rfl⟩
  ·have hw:wOk y = true:=by simp [wOk];omega
   exact lp (i + 1,decide (0 < y)) ⟨by dsimp only;omega,by dsimp only;rw [ha,h2,hw];rfl,by dsimp only;rw [hb,← h3,hB];rfl⟩
 ·obtain rfl:i = t.length:=by omega
  rw [List.take_length] at h2 h3
  repeat' first|(refine wo ?_;first|(refine ao ?_;first|refine oa ?_)|refine oa ?_|refine lnm ?_)|(refine gc ?_;first|(refine ci (fun hB=>?_) (fun hB=>?_) <;> try (exfalso;omega))|(refine cb (fun hB=>?_) (fun hB=>?_) <;> try (exfalso;omega)))|refine sq ?_|refine rg ?_|refine xc ?_|refine nl ?_|refine sk ?_|refine xe ?_|refine rt ?_
  ·refine r1 ⟨?_,rfl⟩
   rw [h2,← h3,show so = false by simpa using hB];rfl
  ·refine r1 ⟨?_,rfl⟩
   rw [h2,← h3,show so = true by simpa using hB];rfl
end Go.Art
namespace Go.Art
open Go Go.Proofs Go.RowKit
theorem bnd_app (C D F:List Ch):Im (bnd C :: bnd D :: F) (bnd (C ++ D) :: F):=by
 refine (un_bnd C (bnd D :: F)).trans ((Im.app (un_bnd D F) C).trans ?_)
 have:=im_bnd (C ++ D) F
 rwa [List.append_assoc] at this
theorem owl_join {e:TypeId} {g:Int→Value} {hs hs2:List Value} {ls ls2:List (List Int)} {A F:List Ch} (hl:hs.length = ls.length) (hf:Fit A [owl e g hs ls,owl e g hs2 ls2] F):Im A (owl e g (hs ++ hs2) (ls ++ ls2) :: F):=by
 refine Im.trans hf ?_
 have:=bnd_app (owls e g hs ls) (owls e g hs2 ls2) F
 have e1:owls e g (hs ++ hs2) (ls ++ ls2) = owls e g hs ls ++ owls e g hs2 ls2:=by unfold owls;rw [List.zipWith_append hl]
 unfold owl
 rw [e1]
 exact this
theorem owl_ones {e:TypeId} {g:Int→Value} {hs:List Value} {ls:List (List Int)} {A:List Ch} (hl:hs.length = ls.length) (h:owl e g hs ls ∈ A) (w:World) (hw:Sat A w):∀ c ∈ hs,c.oneCell' = true:=fun c hc=>by
 obtain ⟨i,hi,rfl⟩:=List.mem_iff_getElem.1 hc
 have h1:Sat (owls e g hs ls) w:=hw.h _ h
 have h2:OwnO w e (hs.getD i nS) ((ls.getD i []).map g):=h1.h _ (List.mem_of_getElem? (owls_get hl (by omega)))
 rw [List.getD_eq_getElem?_getD,List.getElem?_eq_getElem hi] at h2
 rcases h2 with ⟨h3,_⟩ | ⟨b,o,cap,cur,h3,_⟩
 ·show Value.oneCell' hs[i] = true;rw [show hs[i] = _ from h3];rfl
 ·show Value.oneCell' hs[i] = true;rw [show hs[i] = _ from h3];rfl
theorem fm_le {α:Type} (f:Nat→List α) {i k:Nat} (h:i ≤ k):((List.range i).flatMap f).length ≤ ((List.range k).flatMap f).length:=by
 obtain ⟨r,hr⟩:=fm_pre f h
 rw [hr,List.length_append];omega
theorem fm_one {α:Type} (f:Nat→List α) {i k:Nat} (h:i < k):(f i).length ≤ ((List.range k).flatMap f).length:=by
 have h1:=fm_le f (i:=i + 1) h
 rw [fm_len] at h1;omega
theorem capmul {a m:Nat} (h:1 ≤ m):min (min a 4097 * m) 4097 = min (a * m) 4097:=by
 rcases Nat.le_total a 4097 with h1 | h1
 ·rw [Nat.min_eq_left h1]
 ·rw [Nat.min_eq_right h1]
  have:=Nat.mul_le_mul_right m h1
  have:=Nat.le_mul_of_pos_right 4097 h
  omega
structure RlG where
 i:Nat
 o:Value
 hs:List Value
attribute [local irreducible] Fit pt own ro vw mpc lpt vels rels mow lrc dfr
attribute [local irreducible] lmp lme mit velg relg bnd owl dfrl
theorem REnds_tr:∀ (d k:Nat) (b:List Int) (v:Value),k ≤ 65536→b.length + d ≤ 100000→(endsL d k b).length ≤ 4096→Tr Tryz.prog 104 [v,I k,I d] [vw v (Is b)] []
  fun u D=>∃ hs,u.oneCell' = true∧hs.length = (endsL d k b).length∧D = [own TLs u hs,owl TLI I hs (endsL d k b)]
 | 0,k,b,v,hk,hb,hl=>by
  refine Tr.enter env _ Tryz.func104 (by kernel_rfl) rfl Tryz.ntmps104 rfl (by repeat (first | exact has00 | refine has01 ?_)) fun w0=>?_
  repeat' first|refine sl0 fun o=>?_|(refine api (l:=[]) (news:=b) (fun o=>?_);refine TO.one (v:=o) (xs:=Is ([] ++ b)) fun ho=>?_)|(refine sli (vs:=[o]) (fun q1=>?_) (h1:=one_cons ho one_nil);refine TO.one (v:=q1) (xs:=[o]) fun hq1=>?_)|(refine wo ?_;first|(refine ao ?_;first|refine oa ?_)|refine oa ?_)|(refine gc ?_;first|refine ct ?_)|refine sq ?_|refine rg ?_|refine xc ?_|refine nl ?_|refine rt ?_
  refine TX.im (owl_nil (e:=TLI) (g:=I) _) ?_
  refine TX.im (owl_push (hs:=[]) (ls:=[]) (v:=o) (l:=[] ++ b) rfl fitA) ?_
  exact r1 ⟨[o],hq1,rfl,rfl⟩
 | d + 1,k,b,v,hk,hb,hl=>by
  refine Tr.enter env _ Tryz.func104 (by kernel_rfl) rfl Tryz.ntmps104 rfl (by repeat (first | exact has00 | refine has01 ?_)) fun w0=>?_
  repeat' first|(refine wo ?_;first|(refine ao ?_;first|refine oa ?_)|refine oa ?_)|(refine gc ?_;first|refine cf ?_)|refine sq ?_|refine rg ?_|refine xc ?_|refine nl ?_|refine sk ?_|refine bk ?_
  refine TC.im (owl_nil (e:=TLI) (g:=I) _) ?_
  refine TC.im (own_nil TLs _) ?_
  refine TC.loop (ι:=RlG) (fun g=>[(8,I g.i),(7,g.o)]) (fun g=>[own TLs g.o g.hs,owl TLI I g.hs ((List.range g.i).flatMap fun i:Nat=>endsL d (k - 1) (b ++ [(i:Int)]))]) (fun g=>g.i ≤ k∧g.o.oneCell' = true∧g.hs.length = ((List.range g.i).flatMap fun i:Nat=>endsL d (k - 1) (b ++ [(i:Int)])).length) (fun g=>k - g.i) ⟨0,nS,[]⟩ [0,1,2] ⟨Nat.zero_le _,rfl,rfl⟩ ?_
  rintro ⟨i,o,hs⟩ ⟨hi,ho,hh⟩
  dsimp only at hi ho hh ⊢
  by_cases hlt:i < k
  ·have hl1:=fm_one (fun i:Nat=>endsL d (k - 1) (b ++ [(i:Int)])) hlt
   have hl2:=fm_le (fun i:Nat=>endsL d (k - 1) (b ++ [(i:Int)])) (show i + 1 ≤ k from hlt)
   have hl3:((List.range k).flatMap fun i:Nat=>endsL d (k - 1) (b ++ [(i:Int)])).length ≤ 4096:=hl
   have hsu:=fm_succ (fun i:Nat=>endsL d (k - 1) (b ++ [(i:Int)])) i
   have hln:=fm_len (fun i:Nat=>endsL d (k - 1) (b ++ [(i:Int)])) i
   have ih:=fun v=>REnds_tr d (k - 1) (b ++ [(i:Int)]) v (by omega) (by simp;omega) (by omega)
   rw [show ((k - 1:Nat):Int) = (k:Int) - 1 by omega,show (d:Int) = ((d + 1:Nat):Int) - 1 by omega] at ih
   have hbl:b.length + 1 ≤ 100000:=by omega
   have hdb:d ≤ 100000:=by omega
   clear hb
   repeat' first|(refine gca ?_;first|(refine ca (ih o4) ?_;rintro u _ ⟨hs2,hu,hh2,rfl⟩;refine TO.fact (owl_ones (e:=TLI) (g:=I) (hs:=hs2) hh2 memA) fun ho2=>?_))|refine sl0 fun o2=>?_|refine api (l:=[]) (news:=b) (fun o3=>?_)|refine slii [(i:Int)] fun v1=>?_|refine api (l:=[] ++ b) (news:=[(i:Int)]) (fun o4=>?_)|(refine ap (xs:=hs) (news:=hs2) (fun o5=>?_) (h1:=ho2) (hby:=by omega) (h63:=by omega);refine TO.one (v:=o5) (xs:=hs ++ hs2) fun ho5=>?_)|(refine wo ?_;first|(refine ao ?_;first|refine aw ?_|refine oa ?_)|refine oa ?_)|(refine gc ?_;first|(refine ci (fun hB=>?_) (fun hB=>?_) <;> try (exfalso;omega)))|refine sq ?_|refine rg ?_|refine xc ?_|refine nl ?_|refine sk ?_|refine bk ?_|refine xb ?_
   refine TX.im (owl_join (hs:=hs) (hs2:=hs2) hh fitA) ?_
   rw [← hsu]
   exact lp ⟨i + 1,o5,hs ++ hs2⟩ ⟨hlt,ho5,by dsimp only;rw [List.length_append,hln,hh,hh2]⟩
  ·obtain rfl:i = k:=by omega
   repeat' first|(refine wo ?_;first|(refine ao ?_;first|refine oa ?_)|refine oa ?_)|(refine gc ?_;first|(refine ci (fun hB=>?_) (fun hB=>?_) <;> try (exfalso;omega)))|refine sq ?_|refine rg ?_|refine xc ?_|refine nl ?_|refine xe ?_|refine rt ?_
   exact r1 ⟨hs,ho,hh,rfl⟩
theorem RFalls_tr (k d:Nat) (hk:k ≤ 65536) (hd:d ≤ k):Tr Tryz.prog 143 [I k,I d] [] [] fun v D=>v = I ((min (fall k d) 4097:Nat):Int)∧D = []:=by
 refine Tr.enter env _ Tryz.func143 (by kernel_rfl) rfl Tryz.ntmps143 rfl (by repeat (first | exact has00 | refine has01 ?_)) fun w0=>?_
 repeat' first|(refine wo ?_;first|refine oa ?_)|refine sq ?_|refine rg ?_|refine xc ?_|refine nl ?_|refine bk ?_
 refine TC.loop (ι:=Nat) (fun i=>[(6,I i),(5,I ((min (fall k i) 4097:Nat):Int))]) (fun _=>[]) (fun i=>i ≤ d) (fun i=>d - i) 0 [0,1] (Nat.zero_le _) ?_
 rintro i hi
 by_cases hlt:i < d
 ·have h1:min (min (fall k i) 4097 * (k - i)) 4097 = min (fall k (i + 1)) 4097:=capmul (by omega)
  have h2:min (fall k i) 4097 ≤ 4097:=Nat.min_le_right _ _
  obtain ⟨y,hy⟩ : ∃ y,y = min (fall k (i + 1)) 4097:=⟨_,rfl⟩
  rw [← hy] at h1
  generalize min (fall k i) 4097 = x at *
  have h3:x * (k - i) ≤ 4097 * 65536:=Nat.mul_le_mul h2 (by omega)
  have h4:(x:Int) * ((k:Int) - (i:Int)) = ((x * (k - i):Nat):Int):=by rw [Int.natCast_mul,Int.ofNat_sub (by omega)]
  obtain ⟨z,hz⟩ : ∃ z,z = x * (k - i):=⟨_,rfl⟩
  rw [← hz] at h1 h3 h4
  clear hz
  repeat' first|(refine aw (m:=(x:Int) * ((k:Int) - (i:Int))) ?_ (hb:=by rw [h4];omega);rw [h4])|(refine mnn ?_;rw [show min (z:Int) 4097 = (y:Int) by omega])|(refine wo ?_;first|(refine ao ?_;first|refine aw ?_|refine oa ?_)|refine oa ?_)|(refine gc ?_;first|(refine ci (fun hB=>?_) (fun hB=>?_) <;> try (exfalso;omega)))|refine sq ?_|refine rg ?_|refine xc ?_|refine nl ?_|refine sk ?_|refine bk ?_|refine xb ?_
  exact lp (i + 1) hlt (hs:=by rw [← hy];(repeat (refine Sub.cons rfl (by first | rfl | go_num) ?_));exact Sub.nil)
 ·obtain rfl:i = d:=by omega
  repeat' first|(refine wo ?_;first|(refine ao ?_;first|refine oa ?_)|refine oa ?_)|(refine gc ?_;first|(refine ci (fun hB=>?_) (fun hB=>?_) <;> try (exfalso;omega)))|refine sq ?_|refine rg ?_|refine xc ?_|refine nl ?_|refine xe ?_|refine rt ?_
  exact r1 ⟨rfl,rfl⟩
def cntR (n S:Nat):Prop:=(n ≤ 4096→n = S)∧(4096 < n→4096 < S)∧n ≤ 8193
theorem RMany_tr (tot:Int) (k:Nat) (cv ov:Value) (cut oth:List Int) (hc:cv.oneCell' = true) (ho:ov.oneCell' = true) (hE:alE tot cut oth = 0) (hk:cut.length ≤ k∧k ≤ 65536) :
  Tr Tryz.prog 103 [.agg #[I tot,cv,ov],I k] [vw cv (Is cut),vw ov (Is oth)] [] fun v D=>∃ n:Nat,v = I n∧cntR n (allL tot cut oth k).length∧D = []:=by
 have htb:=(alE_bnd hE).1
 refine Tr.enter env _ Tryz.func103 (by kernel_rfl) rfl Tryz.ntmps103 rfl (by repeat (first | exact has00 | refine has01 ?_)) fun w0=>?_
 repeat' first|refine bx fun b=>?_|(refine wo ?_;first|refine oa ?_)|refine sq ?_|refine rg ?_|refine xc ?_|refine nl ?_|refine bk ?_
 refine TC.loop (ι:=Nat × Nat) (fun g=>[(6,I g.1),(5,I g.2)]) (fun _=>[]) (fun g=>g.1 ≤ cut.length∧cntR g.2 ((List.range g.1).flatMap fun c:Nat=>colL tot cut oth k c).length) (fun g=>cut.length - g.1) (0,0) [1,2] ⟨Nat.zero_le _,by refine ⟨fun _=>rfl,fun h=>?_,Nat.zero_le _⟩;exact absurd h (by decide)⟩ ?_
 rintro ⟨c,n⟩ ⟨hi,hn⟩
 dsimp only at hi hn ⊢
 by_cases hlt:c < cut.length
 rotate_left
 ·obtain rfl:c = cut.length:=by omega
  repeat' first|(refine wo ?_;first|(refine ao ?_;first|refine oa ?_)|refine oa ?_|refine ld ?_|refine lnm ?_)|(refine gc ?_;first|(refine ci (fun hB=>?_) (fun hB=>?_) <;> try (exfalso;omega)))|refine sq ?_|refine rg ?_|refine xc ?_|refine nl ?_|refine xe ?_|refine rt ?_
  exact r1 ⟨n,rfl,hn,rfl⟩
 have hcl:((List.range (c + 1)).flatMap fun c:Nat=>colL tot cut oth k c).length = ((List.range c).flatMap fun c:Nat=>colL tot cut oth k c).length + ((List.range tot.toNat).flatMap fun x:Nat=>lvlL tot cut oth k c x).length:=by rw [fm_len];unfold colL;rfl
 repeat' first|(refine wo ?_;first|(refine ao ?_;first|refine oa ?_)|refine oa ?_|refine ld ?_|refine lnm ?_)|(refine gc ?_;first|(refine ci (fun hB=>?_) (fun hB=>?_) <;> try (exfalso;omega)))|refine sq ?_|refine rg ?_|refine xc ?_|refine nl ?_|refine sk ?_|refine bk ?_
 refine TC.loop (ι:=Nat × Nat) (fun g=>[(7,I g.1),(5,I g.2)]) (fun _=>[]) (fun g=>g.1 ≤ tot.toNat∧cntR g.2 (((List.range c).flatMap fun c:Nat=>colL tot cut oth k c).length + ((List.range g.1).flatMap fun x:Nat=>lvlL tot cut oth k c x).length)) (fun g=>tot.toNat - g.1) (0,n) [1,2,6] ⟨Nat.zero_le _,hn⟩ ?_
 rintro ⟨x,n⟩ ⟨hx,hn⟩
 dsimp only at hx hn ⊢
 by_cases hgo:x < tot.toNat∧n ≤ 4096
 ·have hD:=degreeW_tr tot c x cv ov cut oth hc ho hE (by omega) (by omega)
  have hin:=alPick_in hE (c:=c) (l:=x) (by omega)
  have hlen:=fm_len (fun x:Nat=>lvlL tot cut oth k c x) x
  obtain ⟨d,hd⟩ : ∃ d:Nat,alPick tot cut oth c x + 1 = d:=⟨(alPick tot cut oth c x + 1).toNat,by omega⟩
  have hlv:(lvlL tot cut oth k c x).length = fall k d:=by unfold lvlL;rw [hd,endsL_len];rfl
  rw [hd] at hD
  rw [hlv] at hlen
  have hF:=RFalls_tr k d hk.2 (by omega)
  have hcnt:cntR (n + min (fall k d) 4097) (((List.range c).flatMap fun c:Nat=>colL tot cut oth k c).length + ((List.range (x + 1)).flatMap fun x:Nat=>lvlL tot cut oth k c x).length):=by
   rw [hlen]
   unfold cntR at hn ⊢
   omega
  have hm:min (fall k d) 4097 ≤ 4097:=Nat.min_le_right _ _
  generalize min (fall k d) 4097 = m at *
  clear hE hlv hlen hd hcl
  repeat' first|(refine gca ?_;first|(refine ca hD ?_;rintro _ _ ⟨rfl,rfl⟩)|(refine ca hF ?_;rintro _ _ ⟨rfl,rfl⟩))|refine lda ?_|(refine wo ?_;first|(refine ao ?_;first|refine aw ?_|refine oa ?_)|refine oa ?_|refine ld ?_|refine gy ?_|(refine gsi (fun hB=>?_) (fun hB=>?_) <;> try (exfalso;omega)))|(refine gc ?_;first|(refine ci (fun hB=>?_) (fun hB=>?_) <;> try (exfalso;omega)))|refine sq ?_|refine rg ?_|refine xc ?_|refine nl ?_|refine sk ?_|refine bk ?_|refine xb ?_
  exact lp (x + 1,n + m) ⟨hgo.1,hcnt⟩
 ·have hnx:cntR n ((List.range (c + 1)).flatMap fun c:Nat=>colL tot cut oth k c).length:=by
   by_cases hxt:x = tot.toNat
   ·subst hxt;rw [hcl];exact hn
   ·have h1:=fm_le (fun x:Nat=>lvlL tot cut oth k c x) hx
    rw [hcl]
    unfold cntR at hn ⊢
    omega
  clear hcl
  repeat' first|(refine wo ?_;first|(refine ao ?_;first|refine aw ?_|refine oa ?_)|refine oa ?_|refine ld ?_|refine gy ?_|refine gn ?_|(refine gsi (fun hB=>?_) (fun hB=>?_) <;> try (exfalso;omega)))|(refine gc ?_;first|refine cf ?_|(refine ci (fun hB=>?_) (fun hB=>?_) <;> try (exfalso;omega)))|refine sq ?_|refine rg ?_|refine xc ?_|refine nl ?_|refine xe ?_|refine xb ?_
  all_goals exact lp (c + 1,n) ⟨hlt,hnx⟩
theorem RRows_tr (tot k:Int) (cv ov:Value) (cut oth:List Int) (hc:cv.oneCell' = true) (ho:ov.oneCell' = true):Tr Tryz.prog 54 [.agg #[I tot,cv,ov],I k] [vw cv (Is cut),vw ov (Is oth)] []
  fun u D=>∃ v hs,u = tup2 v (I (rowsW tot cut oth k).2)∧v.oneCell' = true∧hs.length = (rowsW tot cut oth k).1.length∧D = [own TLs v hs,owl TLI I hs (rowsW tot cut oth k).1]:=by
 have hC:=RRwE_tr tot k cv ov cut oth hc ho
 unfold rowsW
 by_cases hz:rwE tot cut oth k = 0
 rotate_left
 ·rw [if_neg hz]
  generalize rwE tot cut oth k = e at *
  refine Tr.enter env _ Tryz.func54 (by kernel_rfl) rfl Tryz.ntmps54 rfl (by repeat (first | exact has00 | refine has01 ?_)) fun w0=>?_
  repeat' first|(refine gca ?_;first|(refine ca hC ?_;rintro _ _ ⟨rfl,rfl⟩))|refine bx fun b=>?_|refine lda ?_|(refine wo ?_;first|(refine ao ?_;first|refine oa ?_)|refine oa ?_)|(refine gc ?_;first|(refine cn (fun hB=>?_) (fun hB=>?_) <;> try (exfalso;omega)))|refine sq ?_|refine rg ?_|refine xc ?_|refine nl ?_|refine rt ?_
  refine TX.im (owl_nil (e:=TLI) (g:=I) _) ?_
  refine TX.im (own_nil TLs _) ?_
  exact r2 ⟨nS,[],rfl,rfl,rfl,rfl⟩
 rw [if_pos hz]
 rw [hz] at hC
 obtain ⟨hE,k1,k2,k3⟩:=rwE_ok hz
 obtain ⟨kn,rfl⟩ : ∃ kn:Nat,k = kn:=⟨k.toNat,by omega⟩
 rw [Int.toNat_natCast]
 have hM:=RMany_tr tot kn cv ov cut oth hc ho hE ⟨by omega,by omega⟩
 by_cases hbig:4096 < (allL tot cut oth kn).length
 ·rw [if_pos hbig]
  clear hE hz
  generalize (allL tot cut oth kn).length = S at *
  refine Tr.enter env _ Tryz.func54 (by kernel_rfl) rfl Tryz.ntmps54 rfl (by repeat (first | exact has00 | refine has01 ?_)) fun w0=>?_
  repeat' first|(refine gca ?_;first|(refine ca hC ?_;rintro _ _ ⟨rfl,rfl⟩)|(refine ca hM ?_;rintro _ _ ⟨n,rfl,hn,rfl⟩;unfold cntR at hn))|refine bx fun b=>?_|refine lda ?_|(refine wo ?_;first|(refine ao ?_;first|refine oa ?_)|refine oa ?_)|(refine gc ?_;first|refine cf ?_|(refine ci (fun hB=>?_) (fun hB=>?_) <;> try (exfalso;omega)))|refine sq ?_|refine rg ?_|refine xc ?_|refine nl ?_|refine sk ?_|refine rt ?_
  refine TX.im (owl_nil (e:=TLI) (g:=I) _) ?_
  refine TX.im (own_nil TLs _) ?_
  exact r2 ⟨nS,[],rfl,rfl,rfl,rfl⟩
 rw [if_neg hbig]
 have htb:=(alE_bnd hE).1
 have hM2:Tr Tryz.prog 103 [.agg #[I tot,cv,ov],I kn] [vw cv (Is cut),vw ov (Is oth)] [] fun v D=>∃ n:Nat,v = I n∧n ≤ 4096∧D = []:=hM.mono fun v D ⟨n,h1,h2,h3⟩=>⟨n,h1,by unfold cntR at h2;omega,h3⟩
 clear hM
 refine Tr.enter env _ Tryz.func54 (by kernel_rfl) rfl Tryz.ntmps54 rfl (by repeat (first | exact has00 | refine has01 ?_)) fun w0=>?_
 repeat' first|(refine gca ?_;first|(refine ca hC ?_;rintro _ _ ⟨rfl,rfl⟩)|(refine ca hM2 ?_;rintro _ _ ⟨n,rfl,hn,rfl⟩))|refine bx fun b=>?_|refine lda ?_|(refine wo ?_;first|(refine ao ?_;first|refine oa ?_)|refine oa ?_)|(refine gc ?_;first|refine cf ?_|(refine ci (fun hB=>?_) (fun hB=>?_) <;> try (exfalso;omega)))|refine sq ?_|refine rg ?_|refine xc ?_|refine nl ?_|refine sk ?_|refine bk ?_
 refine TC.im (owl_nil (e:=TLI) (g:=I) _) ?_
 refine TC.im (own_nil TLs _) ?_
 refine TC.loop (ι:=RlG) (fun g=>[(8,I g.i),(7,g.o)]) (fun g=>[own TLs g.o g.hs,owl TLI I g.hs ((List.range g.i).flatMap fun c:Nat=>colL tot cut oth kn c)]) (fun g=>g.i ≤ cut.length∧g.o.oneCell' = true∧g.hs.length = ((List.range g.i).flatMap fun c:Nat=>colL tot cut oth kn c).length) (fun g=>cut.length - g.i) ⟨0,nS,[]⟩ [1,2] ⟨Nat.zero_le _,rfl,rfl⟩ ?_
 clear hM2 hC
 rintro ⟨c,o,hs⟩ ⟨hi,ho1,hh⟩
 dsimp only at hi ho1 hh ⊢
 by_cases hlt:c < cut.length
 rotate_left
 ·obtain rfl:c = cut.length:=by omega
  repeat' first|(refine wo ?_;first|(refine ao ?_;first|refine oa ?_)|refine oa ?_|refine ld ?_|refine lnm ?_)|(refine gc ?_;first|(refine ci (fun hB=>?_) (fun hB=>?_) <;> try (exfalso;omega)))|refine sq ?_|refine rg ?_|refine xc ?_|refine nl ?_|refine xe ?_|refine rt ?_
  exact r2 ⟨o,hs,rfl,ho1,hh,rfl⟩
 have hcs:(List.range (c + 1)).flatMap (fun c:Nat=>colL tot cut oth kn c) = (List.range c).flatMap (fun c:Nat=>colL tot cut oth kn c) ++ (List.range tot.toNat).flatMap fun x:Nat=>lvlL tot cut oth kn c x:=by rw [fm_succ];unfold colL;rfl
 have hle1:=fm_le (fun c:Nat=>colL tot cut oth kn c) (show c + 1 ≤ cut.length from hlt)
 rw [hcs,List.length_append] at hle1
 rw [show (List.range cut.length).flatMap (fun c:Nat=>colL tot cut oth kn c) = allL tot cut oth kn from rfl] at hle1
 repeat' first|(refine wo ?_;first|(refine ao ?_;first|refine oa ?_)|refine oa ?_|refine ld ?_|refine lnm ?_)|(refine gc ?_;first|(refine ci (fun hB=>?_) (fun hB=>?_) <;> try (exfalso;omega)))|refine sq ?_|refine rg ?_|refine xc ?_|refine nl ?_|refine sk ?_|refine bk ?_
 refine TC.loop (ι:=RlG) (fun g=>[(9,I g.i),(7,g.o)]) (fun g=>[own TLs g.o g.hs,owl TLI I g.hs ((List.range c).flatMap (fun c:Nat=>colL tot cut oth kn c) ++ (List.range g.i).flatMap fun x:Nat=>lvlL tot cut oth kn c x)]) (fun g=>g.i ≤ tot.toNat∧g.o.oneCell' = true∧g.hs.length = ((List.range c).flatMap (fun c:Nat=>colL tot cut oth kn c) ++ (List.range g.i).flatMap fun x:Nat=>lvlL tot cut oth kn c x).length) (fun g=>tot.toNat - g.i) ⟨0,o,hs⟩ [1,2,8] ⟨Nat.zero_le _,ho1,by simpa using hh⟩ ?_ (hf:=by dsimp only;rw [show (List.range 0).flatMap (fun x:Nat=>lvlL tot cut oth kn c x) = [] from rfl,List.append_nil];exact fitA)
 rintro ⟨x,o,hs⟩ ⟨hx,ho1,hh⟩
 dsimp only at hx ho1 hh ⊢
 by_cases hxt:x < tot.toNat
 rotate_left
 ·obtain rfl:x = tot.toNat:=by omega
  rw [← hcs] at hh ⊢
  repeat' first|(refine wo ?_;first|(refine ao ?_;first|refine aw ?_|refine oa ?_)|refine oa ?_|refine ld ?_)|(refine gc ?_;first|(refine ci (fun hB=>?_) (fun hB=>?_) <;> try (exfalso;omega)))|refine sq ?_|refine rg ?_|refine xc ?_|refine nl ?_|refine xe ?_|refine xb ?_
  exact lp ⟨c + 1,o,hs⟩ ⟨hlt,ho1,hh⟩
 have hD:=degreeW_tr tot c x cv ov cut oth hc ho hE (by omega) (by omega)
 have hin:=alPick_in hE (c:=c) (l:=x) (by omega)
 have hlen:=fm_len (fun x:Nat=>lvlL tot cut oth kn c x) x
 have hsu:=fm_succ (fun x:Nat=>lvlL tot cut oth kn c x) x
 have hle2:=fm_le (fun x:Nat=>lvlL tot cut oth kn c x) (show x + 1 ≤ tot.toNat from hxt)
 obtain ⟨d,hd⟩ : ∃ d:Nat,alPick tot cut oth c x + 1 = d:=⟨(alPick tot cut oth c x + 1).toNat,by omega⟩
 have hlv:lvlL tot cut oth kn c x = endsL d kn [(c:Int),(x:Int)]:=by unfold lvlL;rw [hd];rfl
 rw [hd] at hD
 rw [List.length_append] at hh
 have ih:=fun v=>REnds_tr d kn [(c:Int),(x:Int)] v (by omega) (by simp;omega) (by rw [← hlv];omega)
 rw [← hlv] at ih
 clear hE hlv hd hz
 repeat' first|(refine gca ?_;first|(refine ca hD ?_;rintro _ _ ⟨rfl,rfl⟩)|(refine ca (ih v1) ?_;rintro u _ ⟨hs2,hu,hh2,rfl⟩;refine TO.fact (owl_ones (e:=TLI) (g:=I) (hs:=hs2) hh2 memA) fun ho2=>?_))|refine lda ?_|refine slii [(c:Int),(x:Int)] fun v1=>?_|(refine ap (xs:=hs) (news:=hs2) (fun o5=>?_) (h1:=ho2) (hby:=by omega) (h63:=by omega);refine TO.one (v:=o5) (xs:=hs ++ hs2) fun ho5=>?_)|(refine wo ?_;first|(refine ao ?_;first|refine aw ?_|refine oa ?_)|refine oa ?_|refine ld ?_)|(refine gc ?_;first|(refine ci (fun hB=>?_) (fun hB=>?_) <;> try (exfalso;omega)))|refine sq ?_|refine rg ?_|refine xc ?_|refine nl ?_|refine sk ?_|refine bk ?_|refine xb ?_
 refine TX.im (owl_join (hs:=hs) (hs2:=hs2) (by rw [List.length_append];exact hh) fitA) ?_
 rw [List.append_assoc,← hsu]
 exact lp ⟨x + 1,o5,hs ++ hs2⟩ ⟨hxt,ho5,by dsimp only;rw [List.length_append,List.length_append,hlen,hh,hh2];omega⟩
end Go.Art
namespace Go.Art
open Go Go.Proofs Go.RowKit
def szL (t:List Int) (k i:Nat):List (List Int):=if t.getD i 0 = 0 then [] else risR (i + 1) 0 k
theorem setP_zero (t:List Int) (k:Nat):setP t k 0 = []:=rfl
theorem setP_succ (t:List Int) (k n:Nat):setP t k (n + 1) = setP t k n ++ szL t k n:=fm_succ _ _
theorem setP_pre (t:List Int) (k:Nat) {i n:Nat} (h:i ≤ n):∃ r,setP t k n = setP t k i ++ r:=fm_pre _ h
theorem szL_len {t:List Int} {k i:Nat}:(szL t k i).length = if t.getD i 0 = 0 then 0 else chs k (i + 1):=by
 unfold szL
 split
 ·rfl
 ·rw [risR_len];rfl
theorem setP_bnd {t:List Int} {k:Nat} (hk:k ≤ 40):∀ n,(setP t k n).length ≤ n * 1099511627776
 | 0=>by simp [setP_zero]
 | n + 1=>by
  rw [setP_succ,List.length_append,Nat.succ_mul]
  have h1:=setP_bnd hk (t:=t) n
  have h2:(szL t k n).length ≤ 1099511627776:=by
   unfold szL;split
   ·simp
   ·exact risR_bnd hk
  omega
theorem solE_13 {t:List Int} {k:Int} (hz:¬ solE t k = 0):solE t k = 13:=by
 unfold solE at hz ⊢
 split
 ·rfl
 ·split
  ·rename_i a b;exact absurd (by rw [if_neg a,if_pos b]) hz
  ·rfl
theorem setsW_err {t:List Int} {k:Int} (h:¬ solE t k = 0):setsW t k = ([],13):=if_neg h
theorem setsW_long {t:List Int} {k:Int} (h:solE t k = 0) (h2:4096 < (setP t k.toNat t.length).length):setsW t k = ([],4):=by unfold setsW;rw [if_pos h,if_pos h2]
theorem setsW_ok {t:List Int} {k:Int} (h:solE t k = 0) (h2:¬ 4096 < (setP t k.toNat t.length).length):setsW t k = (setP t k.toNat t.length,0):=by unfold setsW;rw [if_pos h,if_neg h2]
attribute [local irreducible] Fit pt own ro vw mpc lpt vels rels mow lrc dfr
attribute [local irreducible] lmp lme mit velg relg bnd owl
theorem many23_tr (s:Value) (t:List Int) (k:Nat) (hk:k ≤ 40) (hl:t.length ≤ k) (hw:∀ w ∈ t,0 ≤ w):Tr Tryz.prog 35 [s,I k] [vw s (Is t)] [] fun u D=>(∃ r:Int,u = I r∧(4096 < r ↔ 4096 < (setP t k t.length).length))∧D = []:=by
 refine Tr.enter env _ Tryz.func35 (by kernel_rfl) rfl Tryz.ntmps35 rfl (by repeat (first | exact has00 | refine has01 ?_)) fun w0=>?_
 refine TC.leni (v:=s) (l:=t) fun htl=>?_
 repeat' first|(refine wo ?_;first|refine oa ?_)|refine sq ?_|refine rg ?_|refine xc ?_|refine nl ?_|refine bk ?_
 refine TC.loop (ι:=Nat) (fun i=>[(6,I i),(5,I ((setP t k i).length:Int))]) (fun _=>[]) (fun i=>i ≤ t.length) (fun i=>t.length - i) 0 [0,1] (Nat.zero_le _) ?_ (hs:=by rw [setP_zero];(repeat (refine Sub.cons rfl (by first | rfl | go_num) ?_));exact Sub.nil)
 rintro i hi
 obtain ⟨r,hr⟩:=setP_pre t k hi
 have hrl:(setP t k i).length ≤ (setP t k t.length).length:=by rw [hr,List.length_append];omega
 have hb:=setP_bnd hk (t:=t) i
 have hib:i * 1099511627776 ≤ 40 * 1099511627776:=Nat.mul_le_mul_right _ (by omega)
 have hfull:i = t.length→setP t k i = setP t k t.length:=fun h=>by rw [h]
 by_cases hlt:i < t.length
 ·have hss:=setP_succ t k i
  have hsz:=@szL_len t k i
  obtain ⟨r2,hr2⟩:=setP_pre t k (show i + 1 ≤ t.length from hlt)
  have hrl2:(setP t k (i + 1)).length ≤ (setP t k t.length).length:=by rw [hr2,List.length_append];omega
  have hC:=RChoose_tr k (i + 1) (by omega) (by omega)
  have hc0:0 < chs k (i + 1):=Nat.pos_of_ne_zero (chs_pos (by omega))
  have hc1:=Nat.le_trans (chs_bnd k (i + 1)) (Nat.le_trans (Nat.pow_le_pow_right (by decide) hk) (show 2 ^ 40 ≤ 1099511627776 by decide))
  unfold eNat at hC
  rw [dg_one (by omega) (by omega)] at hC
  obtain ⟨xs,hxs⟩ : ∃ xs,xs = [chs k (i + 1)]:=⟨_,rfl⟩
  have hxl:xs.length = 1:=by rw [hxs];rfl
  have hxg:xs.getD 0 0 = chs k (i + 1):=by rw [hxs];rfl
  rw [← hxs] at hC
  clear hxs
  have hti:=hw (t.getD i 0) (by rw [List.getD_eq_getElem?_getD,List.getElem?_eq_getElem hlt];exact List.getElem_mem hlt)
  have hs1:(setP t k (i + 1)).length = (setP t k i).length + (szL t k i).length:=by rw [hss,List.length_append]
  rw [hsz] at hs1
  clear hr hr2 hss hsz
  obtain ⟨N,hN⟩ : ∃ N,N = (setP t k t.length).length:=⟨_,rfl⟩
  obtain ⟨m,hm⟩ : ∃ m,m = (setP t k i).length:=⟨_,rfl⟩
  obtain ⟨m2,hm2⟩ : ∃ m,m = (setP t k (i + 1)).length:=⟨_,rfl⟩
  rw [← hN] at hrl hrl2 ⊢
  rw [← hm] at hrl hb hs1 ⊢
  rw [← hm2] at hrl2 hs1
  obtain ⟨c,hc⟩ : ∃ c,c = chs k (i + 1):=⟨_,rfl⟩
  rw [← hc] at hc0 hc1 hs1
  obtain ⟨y,hy⟩ : ∃ y,t.getD i 0 = y:=⟨_,rfl⟩
  rw [hy] at hs1 hti
  clear hN hm
  rw [← hc] at hxg
  clear hc hfull
  by_cases hyz:0 < y
  ·rw [if_neg (by omega)] at hs1
   repeat' first|(refine gca ?_;first|(refine ca hC ?_;rintro _ _ ⟨o,rfl,ho,rfl⟩))|refine lie hy ?_|(refine aw (m:=((i + 1:Nat):Int)) ?_)|(refine glo ?_;refine lue (l:=xs) (j:=0) hxg ?_)|(refine mnn ?_)|(refine aw (m:=(m2:Int)) ?_ (h:=by rw [hs1];rfl))|(refine wo ?_;first|(refine ao ?_;first|refine oa ?_)|refine acw ?_|refine oa ?_|refine lnm ?_|refine ixmn ?_|refine ixm ?_|refine gy ?_|(refine gsi (fun hB=>?_) (fun hB=>?_) <;> try (exfalso;omega)))|(refine gc ?_;first|(refine ci (fun hB=>?_) (fun hB=>?_) <;> try (exfalso;omega)))|refine sq ?_|refine rg ?_|refine xc ?_|refine nl ?_|refine sk ?_|refine bk ?_|refine xe ?_|refine rt ?_|refine xb ?_
   all_goals first | exact lp (i + 1) hlt (hs:=by rw [← hm2];(repeat (refine Sub.cons rfl (by first | rfl | go_num) ?_));exact Sub.nil) | (refine r1 ⟨⟨_,rfl,?_⟩,rfl⟩;omega)
  ·rw [if_pos (by omega)] at hs1
   repeat' first|refine lie hy ?_|(refine mnn ?_)|(refine wo ?_;first|(refine ao ?_;first|refine aw ?_|refine oa ?_)|refine oa ?_|refine lnm ?_|refine ixmn ?_|refine gy ?_|(refine gsi (fun hB=>?_) (fun hB=>?_) <;> try (exfalso;omega)))|(refine gc ?_;first|(refine ci (fun hB=>?_) (fun hB=>?_) <;> try (exfalso;omega)))|refine sq ?_|refine rg ?_|refine xc ?_|refine nl ?_|refine sk ?_|refine bk ?_|refine xe ?_|refine rt ?_|refine xb ?_
   all_goals first | exact lp (i + 1) hlt (hs:=by rw [← hm2,hs1];(repeat (refine Sub.cons rfl (by first | rfl | go_num) ?_));exact Sub.nil) | (refine r1 ⟨⟨_,rfl,?_⟩,rfl⟩;omega)
 ·obtain rfl:i = t.length:=by omega
  repeat' first|refine mnn ?_|(refine wo ?_;first|(refine ao ?_;first|refine oa ?_)|refine oa ?_|refine lnm ?_|refine gn ?_|(refine gsi (fun hB=>?_) (fun hB=>?_) <;> try (exfalso;omega)))|(refine gc ?_;first|refine cf ?_)|refine sq ?_|refine rg ?_|refine xc ?_|refine nl ?_|refine xe ?_|refine rt ?_
  all_goals (refine r1 ⟨⟨_,rfl,?_⟩,rfl⟩;omega)
structure SrG where
 i:Nat
 v:Value
 hs:List Value
attribute [local irreducible] setP szL solE
theorem Sets23_tr (s:Value) (t:List Int) (k:Int) (hk:k ≤ 40∨65536 < k):Tr Tryz.prog 13 [s,I k] [vw s (Is t)] []
  fun u D=>∃ v hs,u = tup2 v (I (setsW t k).2)∧v.oneCell' = true∧hs.length = (setsW t k).1.length∧D = [own TLs v hs,owl TLI I hs (setsW t k).1]:=by
 have hC:=RSoCheck_tr s t k
 by_cases hz:solE t k = 0
 rotate_left
 ·rw [setsW_err hz]
  have h13:solE t k = 13:=solE_13 hz
  rw [h13] at hC
  refine Tr.enter env _ Tryz.func13 (by kernel_rfl) rfl Tryz.ntmps13 rfl (by repeat (first | exact has00 | refine has01 ?_)) fun w0=>?_
  repeat' first|(refine gca ?_;first|(refine ca hC ?_;rintro _ _ ⟨rfl,rfl⟩))|(refine wo ?_;first|(refine ao ?_;first|refine oa ?_)|refine oa ?_)|(refine gc ?_;first|refine ct ?_)|refine sq ?_|refine rg ?_|refine xc ?_|refine nl ?_|refine rt ?_
  refine TX.im (owl_nil (e:=TLI) (g:=I) _) ?_
  refine TX.im (own_nil TLs _) ?_
  exact r2 ⟨nS,[],rfl,rfl,rfl,rfl⟩
 rw [hz] at hC
 obtain ⟨z1,z2,z3,_⟩:=solE_zero hz
 obtain ⟨kn,rfl⟩ : ∃ kn:Nat,k = kn:=⟨k.toNat,by omega⟩
 have hlong:=@setsW_long t kn hz
 have hok:=@setsW_ok t kn hz
 rw [Int.toNat_natCast] at hlong hok
 have hM:=many23_tr s t kn (by omega) (by omega) (fun w hw=>(z3 w hw).1)
 have hp:=@setP_pre t kn
 have hti:=fun i (h:i < t.length)=>(z3 (t.getD i 0) (by rw [List.getD_eq_getElem?_getD,List.getElem?_eq_getElem h];exact List.getElem_mem h)).1
 clear z3 hz
 refine Tr.enter env _ Tryz.func13 (by kernel_rfl) rfl Tryz.ntmps13 rfl (by repeat (first | exact has00 | refine has01 ?_)) fun w0=>?_
 repeat' first|(refine gca ?_;first|(refine ca hC ?_;rintro _ _ ⟨rfl,rfl⟩)|(refine ca hM ?_;rintro _ _ ⟨⟨r,rfl,hr⟩,rfl⟩))|(refine wo ?_;first|(refine ao ?_;first|refine oa ?_)|refine oa ?_)|(refine gc ?_;first|refine cf ?_|(refine ci (fun hB=>?_) (fun hB=>?_) <;> try (exfalso;omega)))|refine sq ?_|refine rg ?_|refine xc ?_|refine nl ?_|refine sk ?_|refine bk ?_|refine rt ?_
 ·rw [hlong (by omega)]
  refine TX.im (owl_nil (e:=TLI) (g:=I) _) ?_
  refine TX.im (own_nil TLs _) ?_
  exact r2 ⟨nS,[],rfl,rfl,rfl,rfl⟩
 rw [hok (by omega)]
 clear hM hC hlong hok
 refine TC.im (owl_nil (e:=TLI) (g:=I) _) ?_
 refine TC.im (own_nil TLs _) ?_
 refine TC.loop (ι:=SrG) (fun g=>[(7,I g.i),(6,g.v)]) (fun g=>[own TLs g.v g.hs,owl TLI I g.hs (setP t kn g.i)]) (fun g=>g.i ≤ t.length∧g.v.oneCell' = true∧g.hs.length = (setP t kn g.i).length) (fun g=>t.length - g.i) ⟨0,nS,[]⟩ [0,1] ⟨Nat.zero_le _,rfl,by rw [setP_zero];rfl⟩ ?_ (hf:=by dsimp only;rw [setP_zero];exact fitA)
 rintro ⟨i,v,hs⟩ ⟨hi,hv,hl⟩
 dsimp only at hi hv hl ⊢
 by_cases hlt:i < t.length
 ·have hss:=setP_succ t kn i
  have h0:=hti i hlt
  obtain ⟨r2,hr2⟩:=@hp (i + 1) t.length hlt
  have hb1:(setP t kn (i + 1)).length ≤ 4096:=by
   have:(setP t kn (i + 1)).length ≤ (setP t kn t.length).length:=by rw [hr2,List.length_append];omega
   omega
  clear hti hp hr2
  by_cases hy:t.getD i 0 = 0
  ·rw [show szL t kn i = [] by unfold szL;exact if_pos hy,List.append_nil] at hss
   repeat' first|refine lie hy ?_|(refine wo ?_;first|(refine ao ?_;first|refine aw ?_|refine oa ?_)|refine oa ?_|refine lnm ?_|refine ixmn ?_)|(refine gc ?_;first|refine cf ?_|(refine ci (fun hB=>?_) (fun hB=>?_) <;> try (exfalso;omega)))|refine sq ?_|refine rg ?_|refine xc ?_|refine nl ?_|refine sk ?_|refine bk ?_|refine xb ?_
   exact lp ⟨i + 1,v,hs⟩ ⟨hlt,hv,by dsimp only;rw [hss];exact hl⟩ (hf:=by dsimp only;rw [hss];exact fitA)
  ·have hR:=rising23_tr (i + 1) 0 kn (by omega) (by omega)
   rw [← show szL t kn i = risR (i + 1) 0 kn by unfold szL;exact if_neg hy] at hR
   have hsl:(setP t kn i).length + (szL t kn i).length ≤ 4096:=by rw [← List.length_append,← hss];omega
   clear hb1
   generalize szL t kn i = L at *
   generalize setP t kn i = M at *
   generalize hy2:t.getD i 0 = y at *
   repeat' first|(refine gca ?_;first|(refine ca hR ?_;rintro u2 _ ⟨ks,hu2,hkl,rfl⟩;refine TO.fact (owl_ones (e:=TLI) (g:=I) (hs:=ks) hkl memA) fun ho2=>?_))|refine lie hy2 ?_|(refine aw (m:=((i + 1:Nat):Int)) ?_)|(refine ap (xs:=hs) (news:=ks) (fun o5=>?_) (h1:=ho2) (hby:=by omega) (h63:=by omega);refine TO.one (v:=o5) (xs:=hs ++ ks) fun ho5=>?_)|(refine wo ?_;first|(refine ao ?_;first|refine oa ?_)|refine oa ?_|refine lnm ?_|refine ixmn ?_)|(refine gc ?_;first|(refine ci (fun hB=>?_) (fun hB=>?_) <;> try (exfalso;omega)))|refine sq ?_|refine rg ?_|refine xc ?_|refine nl ?_|refine sk ?_|refine bk ?_|refine xb ?_
   refine TX.im (owl_join (hs:=hs) (hs2:=ks) hl fitA) ?_
   rw [← hss]
   exact lp ⟨i + 1,o5,hs ++ ks⟩ ⟨hlt,ho5,by dsimp only;rw [hss,List.length_append,List.length_append];omega⟩
 ·obtain rfl:i = t.length:=by omega
  repeat' first|(refine wo ?_;first|(refine ao ?_;first|refine oa ?_)|refine oa ?_|refine lnm ?_)|(refine gc ?_;first|(refine ci (fun hB=>?_) (fun hB=>?_) <;> try (exfalso;omega)))|refine sq ?_|refine rg ?_|refine xc ?_|refine nl ?_|refine xe ?_|refine rt ?_
  exact r2 ⟨v,hs,rfl,hv,hl,rfl⟩
end Go.Art
namespace Go.Art
open Go Go.Proofs Go.RowKit
structure StG where
 i:Nat
 v:Value
 hs:List Value
 Ds:List Nat
attribute [local irreducible] Fit pt own ro vw mpc lpt vels rels mow lrc dfr
attribute [local irreducible] lmp lme mit velg relg bnd owl dfrl setP szL solE
theorem MSets_tr (tv:Value) (t:List Int) (k:Int):Tr Tryz.prog 12 [tv,I k] [vw tv (Is t)] []
  fun u D=>∃ v hs,u = tup2 v (I (setsW t k).2)∧v.oneCell' = true∧hs.length = (setsW t k).1.length∧D = [own TLs v hs,owl TLI I hs (setsW t k).1]:=by
 have hC:=SoCheck_tr tv t k
 by_cases hz:solE t k = 0
 rotate_left
 ·rw [setsW_err hz]
  have h13:solE t k = 13:=solE_13 hz
  rw [h13] at hC
  refine Tr.enterM env _ Tryz.func12 (by kernel_rfl) rfl Tryz.ntmps12 rfl (by repeat (first | exact has00 | refine has01 ?_)) fun w0=>?_
  repeat' first|(refine gca ?_;first|(refine ca hC ?_;rintro _ _ ⟨rfl,rfl⟩))|refine al fun c=>?_|(refine wo ?_;first|(refine ao ?_;first|refine oa ?_)|refine oa ?_|refine sr ?_)|(refine gc ?_;first|refine ct ?_)|refine sq ?_|refine rg ?_|refine xc ?_|refine nl ?_|refine rt ?_
  refine TX.im (dfrl_nil _) ?_
  refine TX.im (owl_nil (e:=TLI) (g:=I) _) ?_
  refine TX.im (own_nil TLs _) ?_
  exact mcc (Ds:=[]) (T:=TLL) (T2:=TEr) ⟨nS,[],rfl,rfl,rfl,rfl⟩
 rw [hz] at hC
 obtain ⟨z1,z2,z3,_⟩:=solE_zero hz
 obtain ⟨kn,rfl⟩ : ∃ kn:Nat,k = kn:=⟨k.toNat,by omega⟩
 have hlong:=@setsW_long t kn hz
 have hok:=@setsW_ok t kn hz
 rw [Int.toNat_natCast] at hlong hok
 clear z3 hz
 have hp:=@setP_pre t kn
 refine Tr.enterM env _ Tryz.func12 (by kernel_rfl) rfl Tryz.ntmps12 rfl (by repeat (first | exact has00 | refine has01 ?_)) fun w0=>?_
 refine TC.leni (v:=tv) (l:=t) fun htl=>?_
 repeat' first|(refine gca ?_;first|(refine ca hC ?_;rintro _ _ ⟨rfl,rfl⟩))|refine al fun c=>?_|(refine wo ?_;first|(refine ao ?_;first|refine oa ?_)|refine oa ?_|refine lnm ?_)|(refine gc ?_;first|refine cf ?_)|refine sq ?_|refine rg ?_|refine xc ?_|refine nl ?_|refine sk ?_|refine bk ?_
 rename_i c4 c5
 clear hC
 refine TC.im (owl_nil (e:=TLI) (g:=I) _) ?_
 refine TC.im (own_nil TLs _) ?_
 refine TC.im (dfrl_nil _) ?_
 refine TC.loopD (ι:=StG) (fun g=>g.Ds) (fun g=>[(16,I g.i)]) (fun g=>[dfrl g.Ds,pt c [g.v] TLL,own TLs g.v g.hs,owl TLI I g.hs (setP t kn g.i),pt c4 [nS] TLL,pt c5 [I 0] TEr]) (fun g=>g.i ≤ t.length∧g.v.oneCell' = true∧g.hs.length = (setP t kn g.i).length∧(setP t kn g.i).length ≤ 4096) (fun g=>t.length - g.i) ⟨0,nS,[],[]⟩ [0,1,4,5,6,14,15] ⟨Nat.zero_le _,rfl,by rw [setP_zero];rfl,by rw [setP_zero];exact Nat.zero_le _⟩ ?_ (hf:=by dsimp only;rw [setP_zero];exact fitA)
 rintro ⟨i,v,hs,Ds⟩ ⟨hi,hv,hl,hl2⟩
 dsimp only at hi hv hl hl2 ⊢
 by_cases hlt:i < t.length
 ·have hss:=setP_succ t kn i
  obtain ⟨r2,hr2⟩:=@hp (i + 1) t.length hlt
  clear hp
  by_cases hti:t.getD i 0 = 0
  ·rw [show szL t kn i = [] by unfold szL;exact if_pos hti,List.append_nil] at hss
   repeat' first|refine lie hti ?_|(refine wo ?_;first|(refine ao ?_;first|refine aw ?_|refine oa ?_)|refine oa ?_|refine ixmn ?_)|(refine gc ?_;first|refine ct ?_|(refine ci (fun hB=>?_) (fun hB=>?_) <;> try (exfalso;omega)))|refine sq ?_|refine rg ?_|refine xc ?_|refine nl ?_|refine sk ?_|refine bk ?_|refine xe ?_
   exact lpD ⟨i + 1,v,hs,Ds⟩ ⟨hlt,hv,by dsimp only;rw [hss];exact hl,by dsimp only;rw [hss];exact hl2⟩ (hf:=by dsimp only;rw [hss];exact fitA)
  ·have hO:=of_tr nS (kn:Int) ((0:Nat):Int) ((i + 1:Nat):Int) rfl
   have hseq:=fun pd ps pf pk=>of1_seq (i + 1) 0 kn [] pd ps pf pk nS (by omega) (by omega) (by simp;omega) rfl
   rw [risL_nil,← show szL t kn i = risR (i + 1) 0 kn by unfold szL;exact if_neg hti] at hseq
   rw [hr2,hss] at hlong
   clear hr2 hok
   generalize szL t kn i = L at *
   generalize setP t kn i = M at *
   generalize hy:t.getD i 0 = y at *
   repeat' first|(refine gca ?_;first|(refine ca hO ?_;rintro _ _ ⟨pd,ps,pf,pk,rfl,rfl⟩))|refine lie hy ?_|(refine aw (m:=((i + 1:Nat):Int)) ?_)|(refine wo ?_;first|(refine ao ?_;first|refine oa ?_)|refine oa ?_|refine ixmn ?_)|(refine gc ?_;first|(refine ci (fun hB=>?_) (fun hB=>?_) <;> try (exfalso;omega)))|refine sq ?_|refine rg ?_|refine xc ?_|refine nl ?_|refine sk ?_|refine bk ?_
   have hS:=@SeqO.run _ _ _ _ _ _ (hseq pd ps pf pk)
   clear hseq hO
   rw [show owl TLI I hs M = owl TLI I hs (M ++ L.take 0) by rw [List.take_zero,List.append_nil]]
   refine TC.range [lpt pd [I ((i + 1:Nat):Int)] TLI,lpt ps [nS] TLs,lpt pf [I ((0:Nat):Int)] TLI,lpt pk [I kn] TLI,vw nS (Is [])] [pt c [v] TLL,pt c5 [I 0] TEr,pt c4 [nS] TLL,own TLs v hs,owl TLI I hs (M ++ L.take 0)] (fun l2 rec Dm pend B'=>∃ v hs j,hs.length = M.length + j∧v.oneCell' = true∧((pend = none∧j = L.length∧M.length + j ≤ 4096∧B' = [dfr Dm,pt c [v] TLL,pt c5 [I 0] TEr,pt c4 [nS] TLL,own TLs v hs,owl TLI I hs (M ++ L.take j)])∨(pend = some .ret∧4096 < M.length + L.length∧B' = [dfr Dm,pt c [v] TLL,pt c5 [I 4] TEr,pt c4 [nS] TLL,own TLs v hs,owl TLI I hs (M ++ L.take j)]))) ?_ ?_
   ·intro rec l2 Dm hr
    refine Tr.unb (hS (α:=RwsG) l2 (fun g=>bnd [lrc l2 rec (bif g.st then .done else .ready) (bif g.st then some .ret else none),dfr Dm,pt c [g.v] TLL,pt c5 [I (bif g.st then 4 else 0)] TEr,pt c4 [nS] TLL,own TLs g.v g.hs,owl TLI I g.hs (M ++ L.take g.i)]) (fun g j=>g.st = false∧g.i = j∧g.hs.length = M.length + j∧M.length + j ≤ 4096∧g.v.oneCell' = true) (fun g=>g.st = true∧4096 < M.length + L.length∧g.hs.length = M.length + g.i∧g.v.oneCell' = true) ⟨v,hs,0,false⟩ ⟨rfl,rfl,hl,hl2,hv⟩ (fun p=>bnd_nob (nb1 (nb1 (nb1 (nb1 (nb1 (nb1 (nb1 nb0)))))))) ?_) ?_
    ·rintro ⟨v,hs,j,st⟩ j' x hx ⟨g1,g2,g3,g4,g5⟩ hj
     dsimp only at g1 g2 g3 g4 g5
     subst g1
     subst g2
     have hll:(L.take j).length = j:=by rw [List.length_take];omega
     have htk:=take_succ' hj []
     refine Ty.bndX ?_
     generalize L.getD j [] = row at *
     show Ty _ _ _ _ (lrc l2 rec .ready none :: [dfr Dm,pt c [v] TLL,pt c5 [I 0] TEr,pt c4 [nS] TLL,own TLs v hs,owl TLI I hs (M ++ L.take j),own TLI x (Is row)]) _
     refine Ty.intro env hr (by repeat (first | exact has00 | refine has01 ?_)) fun w1=>?_
     by_cases hfull:M.length + j = 4096
     ·have hlb:4096 < M.length + L.length:=by omega
      repeat' first|refine xbeg ?_|(refine wo ?_;first|(refine ao ?_;first|refine oa ?_)|refine oa ?_|refine ld ?_|refine ln ?_|refine sr ?_)|(refine gc ?_;first|(refine ci (fun hB=>?_) (fun hB=>?_) <;> try (exfalso;omega)))|refine sq ?_|refine rg ?_|refine xc ?_|refine nl ?_|refine bk ?_|refine rt ?_
      exact yr ⟨⟨v,hs,j,true⟩,rfl,.inr ⟨rfl,rfl,hlb,g3,g5⟩⟩
     ·repeat' first|refine xbeg ?_|refine sli (vs:=[x]) (fun q2=>?_) (h1:=one_cons hx one_nil)|(refine ap (xs:=hs) (news:=[x]) (fun o2=>?_) (h1:=one_cons hx one_nil);refine TO.one (v:=o2) (xs:=hs ++ [x]) fun ho2=>?_)|(refine wo ?_;first|(refine ao ?_;first|refine oa ?_)|refine oa ?_|refine ld ?_|refine ln ?_|refine sr ?_)|(refine gc ?_;first|(refine ci (fun hB=>?_) (fun hB=>?_) <;> try (exfalso;omega)))|refine sq ?_|refine rg ?_|refine xc ?_|refine nl ?_|refine sk ?_|refine bk ?_|refine xb ?_
      refine TX.im (owl_push (hs:=hs) (ls:=M ++ L.take j) (v:=x) (l:=row) (by rw [List.length_append,hll];exact g3) fitA) ?_
      rw [List.append_assoc,← htk]
      exact yn ⟨⟨o2,hs ++ [x],j + 1,false⟩,rfl,.inl ⟨rfl,rfl,rfl,by simp [g3];omega,by omega,ho2⟩⟩
    ·rintro _ _ ⟨⟨v,hs,j,st⟩,rfl,⟨g1,g2,g3,g4,g5⟩ | ⟨g1,g2,g3,g4⟩⟩
     ·dsimp only at g1 g2 g3 g4 g5
      subst g1
      exact ⟨_,rfl,.ready,none,_,rfl,by decide,v,hs,j,by omega,g5,.inl ⟨rfl,by omega,by omega,rfl⟩⟩
     ·dsimp only at g1 g2 g3 g4
      subst g1
      exact ⟨_,rfl,.done,some .ret,_,rfl,by decide,v,hs,j,g3,g4,.inr ⟨rfl,g2,rfl⟩⟩
   ·rintro l2 rec Dm pend B' ⟨v,hs,j,g1,g2,⟨rfl,g3,g4,rfl⟩ | ⟨rfl,g3,rfl⟩⟩
    ·show TX env _ _ _ _ _ _
     refine TX.im (dfrl_push (D:=Dm) (Ds:=Ds) fitA) ?_
     rw [g3,List.take_length,← hss]
     repeat' first|(refine wo ?_;first|(refine ao ?_;first|refine aw ?_)|refine oa ?_)|refine rg ?_|refine xc ?_|refine nl ?_|refine xb ?_
     exact lpD ⟨i + 1,v,hs,Dm :: Ds⟩ ⟨hlt,g2,by dsimp only;rw [hss,List.length_append];omega,by dsimp only;rw [hss,List.length_append];omega⟩
    ·show TC env _ _ _ _ _ _
     rw [hlong (by simp only [List.length_append];omega)]
     refine TC.im (dfrl_push (D:=Dm) (Ds:=Ds) fitA) ?_
     repeat' first|refine rt ?_
     refine TX.im (owl_nil (e:=TLI) (g:=I) _) ?_
     refine TX.im (own_nil TLs _) ?_
     exact mcc (Ds:=Dm :: Ds) (T:=TLL) (T2:=TEr) ⟨nS,[],rfl,rfl,rfl,rfl⟩
 ·obtain rfl:i = t.length:=by omega
  rw [hok (by omega)]
  repeat' first|(refine wo ?_;first|(refine ao ?_;first|refine oa ?_)|refine ld ?_|refine sr ?_)|(refine gc ?_;first|(refine ci (fun hB=>?_) (fun hB=>?_) <;> try (exfalso;omega)))|refine sq ?_|refine rg ?_|refine xc ?_|refine nl ?_|refine xe ?_|refine rt ?_
  exact mcc (Ds:=Ds) (T:=TLL) (T2:=TEr) ⟨v,hs,rfl,hv,hl,rfl⟩
end Go.Art
namespace Go.Art
open Go Go.Proofs Go.RowKit
def refE (t:List Int) (k n:Int):Int:=if solE t k = 0 then (if n < 0∨4096 < n then 3 else 0) else 13
theorem refE_zero {t:List Int} {k n:Int} (h:refE t k n = 0):solE t k = 0∧0 ≤ n∧n ≤ 4096:=by
 unfold refE at h
 split at h
 ·split at h
  ·cases h
  ·exact ⟨by assumption,by omega,by omega⟩
 ·cases h
def prodC (k:Nat):Nat→Nat
 | 0=>1
 | i + 1=>prodC k i * chs k (i + 1)
def prodX (k d:Nat):Nat→Nat
 | 0=>1
 | i + 1=>if i + 1 = d then prodX k d i else prodX k d i * chs k (i + 1)
theorem prodX_lt {k d:Nat}:∀ {n:Nat},n < d→prodX k d n = prodC k n
 | 0,_=>rfl
 | n + 1,h=>by unfold prodX prodC;rw [if_neg (by omega),prodX_lt (by omega)]
theorem prodX_mul {k d:Nat} (h1:1 ≤ d):∀ {n:Nat},d ≤ n→prodX k d n * chs k d = prodC k n
 | 0,h=>by omega
 | n + 1,h=>by
  unfold prodX prodC
  by_cases e:n + 1 = d
  ·rw [if_pos e,prodX_lt (by omega),e]
  ·rw [if_neg e,← prodX_mul h1 (by omega),Nat.mul_assoc,Nat.mul_comm (chs k (n + 1)),← Nat.mul_assoc]
theorem prodC_pos {k:Nat}:∀ {n:Nat},n ≤ k→prodC k n ≠ 0
 | 0,_=>Nat.one_ne_zero
 | n + 1,h=>by unfold prodC;exact Nat.mul_ne_zero (prodC_pos (by omega)) (chs_pos (by omega))
theorem prodC_le {k:Nat} (hk:k ≤ 40):∀ n,prodC k n ≤ 1099511627776 ^ n
 | 0=>by simp [prodC]
 | n + 1=>by
  unfold prodC
  rw [Nat.pow_succ]
  exact Nat.mul_le_mul (prodC_le hk n) (Nat.le_trans (chs_bnd k (n + 1)) (Nat.le_trans (Nat.pow_le_pow_right (by decide) hk) (by decide)))
theorem prodX_le {k d n:Nat} (h1:1 ≤ d) (h2:d ≤ n) (h3:n ≤ k):prodX k d n ≤ prodC k n:=by
 rw [← prodX_mul h1 h2]
 exact Nat.le_mul_of_pos_right _ (Nat.pos_of_ne_zero (chs_pos (by omega)))
def oneS (t:List Int) (k:Nat):Nat:=t.sum.toNat * prodC k t.length
def wS (t:List Int) (k d:Nat):Nat:=(t.getD (d - 1) 0).toNat * prodX k d t.length
def itemS (t:List Int) (k:Nat):List (List Int × Nat):=(setP t k t.length).map fun s=>(s,wS t k s.length)
theorem itemS_len (t:List Int) (k:Nat):(itemS t k).length = (setP t k t.length).length:=by simp [itemS]
theorem itemS_fst (t:List Int) (k:Nat):(itemS t k).map (·.1) = setP t k t.length:=by unfold itemS;rw [List.map_map];exact List.map_id _
theorem le_sum {t:List Int} (h:∀ w ∈ t,0 ≤ w):∀ w ∈ t,w ≤ t.sum:=by
 induction t with
 | nil=>intro w hw;cases hw
 | cons a r ih=>
  intro w hw
  have h1:0 ≤ r.sum:=by
   clear ih hw
   induction r with
   | nil=>simp
   | cons b s ih2=>
    have:=h b (by simp)
    have:=ih2 fun w hw=>h w (by rcases List.mem_cons.1 hw with rfl | hw;simp;simp [hw])
    simp only [List.sum_cons];omega
  rw [List.sum_cons]
  have ha:=h a (by simp)
  rcases List.mem_cons.1 hw with rfl | hw
  ·omega
  ·have:=ih (fun w hw=>h w (by simp [hw])) w hw;omega
theorem oneS_pos {t:List Int} {k:Nat} (hz:solE t k = 0):oneS t k ≠ 0:=by
 obtain ⟨z1,z2,z3,z4⟩:=solE_zero hz
 have:=sum_posT z3 z4
 exact Nat.mul_ne_zero (by omega) (prodC_pos (by omega))
theorem oneS_lt {t:List Int} {k:Nat} (hz:solE t k = 0) (hk:k ≤ 40) (hl:t.length ≤ 12):oneS t k < 18446744073709551616 ^ 10:=by
 obtain ⟨z1,z2,z3,z4⟩:=solE_zero hz
 have h1:=(sum_wOk z3).2
 have h2:t.sum.toNat ≤ 268435456:=by
  have:(16777215:Int) * t.length ≤ 16777215 * 12:=by omega
  omega
 have h3:=prodC_le hk t.length
 have h4:1099511627776 ^ t.length ≤ 1099511627776 ^ 12:=Nat.pow_le_pow_right (by decide) hl
 have h5:oneS t k ≤ 268435456 * 1099511627776 ^ 12:=Nat.mul_le_mul h2 (Nat.le_trans h3 h4)
 exact Nat.lt_of_le_of_lt h5 (by decide)
theorem wS_le {t:List Int} {k d:Nat} (hz:solE t k = 0) (h1:1 ≤ d) (h2:d ≤ t.length):wS t k d ≤ oneS t k:=by
 obtain ⟨z1,z2,z3,z4⟩:=solE_zero hz
 have hm:t.getD (d - 1) 0 ∈ t:=by rw [List.getD_eq_getElem?_getD,List.getElem?_eq_getElem (by omega)];exact List.getElem_mem (by omega)
 have:=le_sum (fun w hw=>(z3 w hw).1) _ hm
 exact Nat.mul_le_mul (by omega) (prodX_le h1 h2 (by omega))
theorem cha_eq {t:List Int} {k d:Nat} (hz:solE t k = 0) (h1:1 ≤ d) (h2:d ≤ t.length):mkRat (t.getD (d - 1) 0) (chs k d * t.sum.toNat) = mkRat ((wS t k d:Nat):Int) (oneS t k):=by
 obtain ⟨z1,z2,z3,z4⟩:=solE_zero hz
 have hs:=sum_posT z3 z4
 have hm:t.getD (d - 1) 0 ∈ t:=by rw [List.getD_eq_getElem?_getD,List.getElem?_eq_getElem (by omega)];exact List.getElem_mem (by omega)
 have h0:=(z3 _ hm).1
 have hx:prodX k d t.length ≠ 0:=fun e=>by
  have:=prodX_mul (k:=k) h1 h2
  rw [e,Nat.zero_mul] at this
  exact prodC_pos (k:=k) (n:=t.length) (by omega) this.symm
 have:=mk_scale (t.getD (d - 1) 0).toNat (chs k d * t.sum.toNat) (prodX k d t.length) (Nat.mul_ne_zero (chs_pos (by omega)) (by omega)) hx
 rw [Int.toNat_of_nonneg h0] at this
 rw [this]
 congr 1
 unfold oneS
 rw [← prodX_mul (k:=k) h1 h2]
 grind
theorem itemS_mem {t:List Int} {k:Nat} {s:List Int × Nat} (h:s ∈ itemS t k):(1 ≤ s.1.length∧s.1.length ≤ t.length)∧s.2 = wS t k s.1.length∧s.1 ∈ risR s.1.length 0 k:=by
 obtain ⟨l,hl,rfl⟩:=List.mem_map.1 h
 obtain ⟨a1,a2,_,a4⟩:=setP_mem hl
 exact ⟨⟨a1,a2⟩,rfl,a4⟩
theorem itemS_le {t:List Int} {k:Nat} (hz:solE t k = 0):∀ s ∈ itemS t k,s.2 ≤ oneS t k:=fun s h=>by
 obtain ⟨a1,a2,_⟩:=itemS_mem h
 rw [a2];exact wS_le hz a1.1 a1.2
theorem itemS_pos {t:List Int} {k:Nat} (hz:solE t k = 0):0 < (itemS t k).length:=by
 obtain ⟨z1,z2,z3,w,hw,hw0⟩:=solE_zero hz
 obtain ⟨i,hi,rfl⟩:=List.mem_iff_getElem.1 hw
 rw [itemS_len]
 obtain ⟨r,hr⟩:=setP_pre t k (show i + 1 ≤ t.length from hi)
 have h1:(szL t k i).length ≠ 0:=by
  rw [szL_len,if_neg (by simp [List.getD_eq_getElem?_getD,hi];omega)]
  exact chs_pos (by omega)
 rw [hr,setP_succ]
 simp only [List.length_append];omega
def massW (W:List (List Int)→Bool) (t:List Int) (k n:Int):Fr3 × Int:=
 if refE t k n = 0 then (if (setsW t k).2 = 0 then sumW W (itemS t k.toNat) (oneS t k.toNat) n.toNat else (rqn,4)) else (rqn,refE t k n)
structure DrG where
 i:Nat
 v:Value
 hs:List (Value × Value)
attribute [local irreducible] Fit pt own ro vw mpc lpt vels rels mow lrc dfr
attribute [local irreducible] lmp lme mit velg relg bnd owl setP szL solE risR chaW oneS wS
theorem mrefuses_tr (tv:Value) (t:List Int) (k n:Int):Tr Tryz.prog 47 [tv,I k,I n] [vw tv (Is t)] [] fun u D=>u = I (refE t k n)∧D = []:=by
 have hC:=SoCheck_tr tv t k
 have h13:=@solE_13 t k
 unfold refE
 refine Tr.enter env _ Tryz.func47 (by kernel_rfl) rfl Tryz.ntmps47 rfl (by repeat (first | exact has00 | refine has01 ?_)) fun w0=>?_
 by_cases hz:solE t k = 0
 ·rw [hz] at hC
  rw [if_pos hz]
  repeat' first|(refine gca ?_;first|(refine ca hC ?_;rintro _ _ ⟨rfl,rfl⟩))|(refine wo ?_;first|(refine ao ?_;first|refine oa ?_)|refine oa ?_|refine gy ?_|refine gn ?_|(refine gsi (fun hB=>?_) (fun hB=>?_) <;> try (exfalso;omega)))|(refine gc ?_;first|refine ct ?_|refine cf ?_|(refine ci (fun hB=>?_) (fun hB=>?_) <;> try (exfalso;omega)))|refine sq ?_|refine rg ?_|refine xc ?_|refine nl ?_|refine sk ?_|refine bk ?_|refine rt ?_|refine xb ?_
  all_goals first | exact r1 ⟨by rw [if_pos (by omega)],rfl⟩ | exact r1 ⟨by rw [if_neg (by omega)],rfl⟩
 ·rw [h13 hz] at hC
  rw [if_neg hz]
  repeat' first|(refine gca ?_;first|(refine ca hC ?_;rintro _ _ ⟨rfl,rfl⟩))|(refine wo ?_;first|(refine ao ?_;first|refine oa ?_)|refine oa ?_)|(refine gc ?_;first|refine ct ?_)|refine sq ?_|refine rg ?_|refine xc ?_|refine nl ?_|refine bk ?_|refine rt ?_
  exact r1 ⟨rfl,rfl⟩
abbrev itmC (v:Value) (ss:List Value) (hs:List (Value × Value)) (L:List (List Int × Nat)) (D:Nat):List Ch:=[oww TIm 4 v L.length (ics ss (fracs L D) hs),owl TLI I ss (L.map (·.1)),ofr hs (fracs L D)]
theorem drawn_err (tv:Value) (t:List Int) (k n:Int) (hz:refE t k n ≠ 0):Tr Tryz.prog 37 [tv,I k,I n] [vw tv (Is t)] [] fun u D=>u = tup2 nS (I (refE t k n))∧D = []:=by
 have hR:=mrefuses_tr tv t k n
 generalize refE t k n = e at *
 refine Tr.enter env _ Tryz.func37 (by kernel_rfl) rfl Tryz.ntmps37 rfl (by repeat (first | exact has00 | refine has01 ?_)) fun w0=>?_
 repeat' first|(refine gca ?_;first|(refine ca hR ?_;rintro _ _ ⟨rfl,rfl⟩))|(refine wo ?_;first|(refine ao ?_;first|refine oa ?_)|refine oa ?_)|(refine gc ?_;first|(refine cn (fun hB=>?_) (fun hB=>?_) <;> try (exfalso;omega)))|refine sq ?_|refine rg ?_|refine xc ?_|refine nl ?_|refine rt ?_
 exact r2 ⟨rfl,rfl⟩
theorem drawn_long (tv:Value) (t:List Int) (k n:Int) (hz:refE t k n = 0) (h2:setsW t k = ([],4)):Tr Tryz.prog 37 [tv,I k,I n] [vw tv (Is t)] [] fun u D=>u = tup2 nS (I 4)∧D = []:=by
 have hR:=mrefuses_tr tv t k n
 have hS:=MSets_tr tv t k
 rw [hz] at hR
 rw [h2] at hS
 refine Tr.enter env _ Tryz.func37 (by kernel_rfl) rfl Tryz.ntmps37 rfl (by repeat (first | exact has00 | refine has01 ?_)) fun w0=>?_
 repeat' first|(refine gca ?_;first|(refine ca hR ?_;rintro _ _ ⟨rfl,rfl⟩)|(refine ca hS ?_;rintro _ _ ⟨v,hs,rfl,hv,hl,rfl⟩))|(refine wo ?_;first|(refine ao ?_;first|refine oa ?_)|refine oa ?_|refine ln ?_)|(refine gc ?_;first|refine cf ?_)|refine sq ?_|refine rg ?_|refine xc ?_|refine nl ?_|refine sk ?_|refine bk ?_
 obtain rfl:hs = []:=List.length_eq_zero_iff.1 hl
 refine TC.loop (ι:=Nat) (fun i=>[(31,I i)]) (fun _=>[]) (fun i=>i = 0) (fun i=>0) 0 [11,10,30] rfl ?_
 rintro i rfl
 repeat' first|(refine wo ?_;first|(refine ao ?_;first|refine oa ?_)|refine oa ?_)|(refine gc ?_;first|refine cf ?_)|refine sq ?_|refine rg ?_|refine xc ?_|refine nl ?_|refine xe ?_|refine rt ?_
 exact r2 ⟨rfl,rfl⟩
theorem drawn_tr (tv:Value) (t:List Int) (k:Nat) (n:Int) (hz:refE t k n = 0) (h2:setsW t k = (setP t k t.length,0)) (h3:(setP t k t.length).length ≤ 4096):Tr Tryz.prog 37 [tv,I k,I n] [vw tv (Is t)] []
  fun u D=>∃ v ss hs,u = tup2 v (I 0)∧v.oneCell' = true∧ss.length = (itemS t k).length∧hs.length = (itemS t k).length∧D = itmC v ss hs (itemS t k) (oneS t k):=by
 have hR:=mrefuses_tr tv t k n
 have hS:=MSets_tr tv t k
 obtain ⟨hsz,_⟩:=refE_zero hz
 rw [hz] at hR
 rw [h2] at hS
 have hCh:=fun d=>ChaW_tr tv t k d
 have hmem:=@itemS_mem t k
 have hce:=fun d h1 h2=>cha_eq (d:=d) hsz h1 h2
 have hcw:∀ d:Nat,1 ≤ d→d ≤ t.length→chaW t k d = (rqf (mkRat (t.getD (d - 1) 0) (chs k d * t.sum.toNat)),0):=fun d h1 h2=>by
  unfold chaW
  rw [if_pos hsz,if_neg (by omega),Int.toNat_natCast,Int.toNat_natCast,show (((d:Int) - 1).toNat) = d - 1 by omega]
 obtain ⟨L,hL⟩ : ∃ L,L = itemS t k:=⟨_,rfl⟩
 have hLl:L.length ≤ 4096:=by rw [hL,itemS_len];exact h3
 rw [← itemS_fst,← hL] at hS
 simp only [← hL] at hmem ⊢
 have hgl:∀ i,i < L.length→L.getD i ([],0) ∈ L:=fun i h=>by rw [List.getD_eq_getElem?_getD,List.getElem?_eq_getElem h];exact List.getElem_mem h
 have hlen:∀ s ∈ L,s.1.length ≤ t.length:=fun s hs=>(hmem hs).1.2
 have hch:∀ i,i < L.length→chaW t k ((L.getD i ([],0)).1.length) = (rqf ((fracs L (oneS t k)).getD i 0),0):=fun i h=>by
  obtain ⟨a1,a2,_⟩:=hmem (hgl i h)
  rw [hcw _ a1.1 a1.2,hce _ a1.1 a1.2,fracs_get h,a2]
 have hfl:(fracs L (oneS t k)).length = L.length:=by simp
 have hll:(L.map fun s:List Int × Nat=>s.1).length = L.length:=List.length_map ..
 have hfg:=fun i (h:i < L.length)=>fst_get (L:=L) h
 clear hL hz h2 h3 hmem hce hcw hgl
 unfold itmC
 generalize fracs L (oneS t k) = Q at *
 rw [hll] at hS
 refine Tr.enter env _ Tryz.func37 (by kernel_rfl) rfl Tryz.ntmps37 rfl (by repeat (first | exact has00 | refine has01 ?_)) fun w0=>?_
 refine TC.leni (v:=tv) (l:=t) fun htl=>?_
 repeat' first|(refine gca ?_;first|(refine ca hR ?_;rintro _ _ ⟨rfl,rfl⟩)|(refine ca hS ?_;rintro _ _ ⟨sv,ss,rfl,hsv,hsl,rfl⟩))|(refine wo ?_;first|(refine ao ?_;first|refine oa ?_)|refine oa ?_|refine ln ?_)|(refine gc ?_;first|refine cf ?_)|refine sq ?_|refine rg ?_|refine xc ?_|refine nl ?_|refine sk ?_|refine bk ?_
 refine TC.im (oww_nil TIm 4 _) (TC.im (owl_nil (e:=T64) (g:=wU) _) ?_)
 refine TC.fact (owl_ones (e:=TLI) (g:=I) (hs:=ss) (ls:=L.map fun s=>s.1) (by rw [hll];exact hsl) memA) fun hso=>?_
 refine TC.loop (ι:=DrG) (fun g=>[(31,I g.i),(11,g.v)]) (fun g=>[oww TIm 4 g.v g.i (ics (ss.take g.i) (Q.take g.i) g.hs),ofr g.hs (Q.take g.i)]) (fun g=>g.i ≤ L.length∧g.v.oneCell' = true∧g.hs.length = g.i) (fun g=>L.length - g.i) ⟨0,nS,[]⟩ [0,1,10,29,30] ⟨Nat.zero_le _,rfl,rfl⟩ ?_
 rintro ⟨i,v,hs⟩ ⟨hi,hv,hl⟩
 dsimp only at hi hv hl ⊢
 by_cases hlt:i < L.length
 ·have hg1:ss[i]? = some (ss.getD i nS):=by rw [List.getD_eq_getElem?_getD,List.getElem?_eq_getElem (by omega)];rfl
  have hs1:(ss.getD i nS).oneCell' = true:=hso _ (by rw [List.getD_eq_getElem?_getD,List.getElem?_eq_getElem (by omega)];exact List.getElem_mem (by omega))
  have hsl1:∀ F,owl TLI I ss (L.map fun s=>s.1) ∈ F→Has F (vw (ss.getD i nS) (Is (L.getD i ([],0)).1)):=fun F h=>by
   have:=has_elg (g:=I) (hs:=ss) (ls:=L.map fun s=>s.1) (has_owl (e:=TLI) (by rw [hll];exact hsl) h) (i:=i) (by rw [hll];exact hlt)
   rwa [hfg i hlt] at this
  have hc:=hch i hlt
  have hC1:=hCh ((L.getD i ([],0)).1.length:Int)
  rw [hc] at hC1
  have hst:=take_succ' (show i < ss.length by omega) nS
  have hqt:=take_succ' (show i < Q.length by omega) 0
  have hqtl:(Q.take i).length = i:=by rw [List.length_take];omega
  have hra:=fun vn vd=>ics_app (ss:=ss.take i) (rs:=[ss.getD i nS]) (qs:=Q.take i) (ps:=[Q.getD i 0]) (hs:=hs) (gs:=[(vn,vd)]) (by simp only [List.length_take];omega) (by rw [hqtl];exact hl)
  simp only [← hst,← hqt,ics_one] at hra
  have hrl:=hlen (L.getD i ([],0)) (by rw [List.getD_eq_getElem?_getD,List.getElem?_eq_getElem hlt];exact List.getElem_mem hlt)
  unfold FW at hC1
  dsimp only at hC1
  clear hso hch hCh hfg hst hc hlen
  generalize (L.getD i ([],0)).1 = row at *
  generalize ss.getD i nS = s1 at *
  generalize Q.getD i 0 = q at *
  repeat' first|(refine gca ?_;first|(refine ca hC1 ?_;rintro _ _ ⟨vn,vd,rfl,hvn,hvd,rfl⟩))|refine le (xs:=ss) ?_ (hj:=hg1)|(refine lnm (l:=row) ?_ (hh:=hsl1 _ memA))|refine al fun c14=>?_|refine srz ?_|refine lda ?_|refine bdm ?_|refine slws (sz:=4) (xs:=irow s1 q (vn,vd)) (fun g2=>?_)|refine apw (sz:=4) (M:=1) (N:=i) (xs:=ics (ss.take i) (Q.take i) hs) (ys:=irow s1 q (vn,vd)) (by decide) rfl (one_cons hs1 (one_cons rfl (one_cons hvn (one_cons hvd one_nil)))) (fun o2 ho2=>?_) (hu:=has_oww memA)|(refine wo ?_;first|(refine ao ?_;first|refine aw ?_|refine oa ?_)|refine oa ?_|refine ixn ?_)|(refine gc ?_;first|(refine ci (fun hB=>?_) (fun hB=>?_) <;> try (exfalso;omega)))|refine sq ?_|refine rg ?_|refine xc ?_|refine nl ?_|refine sk ?_|refine bk ?_|refine xb ?_
  refine TX.im (ofr_snoc (qs:=Q.take i) (by rw [hqtl];exact hl) q vn vd fitA) ?_
  rw [← hqt]
  exact lp ⟨i + 1,o2,hs ++ [(vn,vd)]⟩ ⟨hlt,ho2,by simp [hl]⟩ (hf:=by dsimp only;rw [hra];exact fitA)
 ·obtain rfl:i = L.length:=by omega
  rw [List.take_of_length_le (show ss.length ≤ L.length by omega),List.take_of_length_le (show Q.length ≤ L.length by omega)]
  repeat' first|(refine wo ?_;first|(refine ao ?_;first|refine oa ?_)|refine oa ?_)|(refine gc ?_;first|(refine ci (fun hB=>?_) (fun hB=>?_) <;> try (exfalso;omega)))|refine sq ?_|refine rg ?_|refine xc ?_|refine nl ?_|refine xe ?_|refine rt ?_
  exact r2 ⟨v,ss,hs,rfl,hv,by omega,hl,rfl⟩
theorem setsW_cases {t:List Int} {k:Nat} (hz:solE t k = 0):(setsW t k = (setP t k t.length,0)∧(setP t k t.length).length ≤ 4096)∨setsW t k = ([],4):=by
 by_cases h:4096 < (setP t k t.length).length
 ·exact .inr (setsW_long hz (by rw [Int.toNat_natCast];exact h))
 ·refine .inl ⟨?_,by omega⟩
  have:=setsW_ok hz (by rw [Int.toNat_natCast];exact h)
  rwa [Int.toNat_natCast] at this
noncomputable abbrev failW (k:Int) (ls:List (List Int)):Bool:=decide (0 < (largeR k ls).length)
theorem MFail_tr (tv:Value) (t:List Int) (k n:Int) (hl:t.length ≤ 12) (hk:k ≤ 40∨65536 < k) (hn:n ≤ 12∨4096 < n):Tr Tryz.prog 21 [tv,I k,I n] [vw tv (Is t)] [] (FW (massW (failW k) t k n)):=by
 unfold massW
 by_cases hz:refE t k n = 0
 rotate_left
 ·rw [if_neg hz]
  have hD:=drawn_err tv t k n hz
  refine Tr.mono (R:=fun u D=>u = tup2 rv0 (I (refE t k n))∧D = [own T64 nS (Us []),own T64 nS (Us [])]) ?_ fun u D h=>FW.of0 h
  generalize refE t k n = e at *
  refine Tr.enter env _ Tryz.func21 (by kernel_rfl) rfl Tryz.ntmps21 rfl (by repeat (first | exact has00 | refine has01 ?_)) fun w0=>?_
  repeat' first|(refine gca ?_;first|(refine ca hD ?_;rintro _ _ ⟨rfl,rfl⟩))|refine al fun c=>?_|refine bdz ?_|refine srz ?_|(refine wo ?_;first|(refine ao ?_;first|refine oa ?_)|refine oa ?_)|(refine gc ?_;first|(refine cn (fun hB=>?_) (fun hB=>?_) <;> try (exfalso;omega)))|refine sq ?_|refine rg ?_|refine xc ?_|refine nl ?_|refine rt ?_
  refine TX.im (own_nil T64 _) (TX.im (own_nil T64 _) ?_)
  exact rca (cs:=[.bool false,nS,nS]) (vs:=[.bool false,nS,nS]) (T:=TRt) ⟨rfl,rfl⟩
 rw [if_pos hz]
 obtain ⟨hsz,hn0,hn1⟩:=refE_zero hz
 obtain ⟨z1,z2,_⟩:=solE_zero hsz
 obtain ⟨kn,rfl⟩ : ∃ kn:Nat,k = kn:=⟨k.toNat,by omega⟩
 obtain ⟨nn,rfl⟩ : ∃ nn:Nat,n = nn:=⟨n.toNat,by omega⟩
 rw [Int.toNat_natCast,Int.toNat_natCast]
 rcases setsW_cases hsz with ⟨h1,h2⟩ | h1
 rotate_left
 ·rw [h1,if_neg (by decide)]
  have hD:=drawn_long tv t kn nn hz h1
  refine Tr.mono (R:=fun u D=>u = tup2 rv0 (I 4)∧D = [own T64 nS (Us []),own T64 nS (Us [])]) ?_ fun u D h=>FW.of0 h
  refine Tr.enter env _ Tryz.func21 (by kernel_rfl) rfl Tryz.ntmps21 rfl (by repeat (first | exact has00 | refine has01 ?_)) fun w0=>?_
  repeat' first|(refine gca ?_;first|(refine ca hD ?_;rintro _ _ ⟨rfl,rfl⟩))|refine al fun c=>?_|refine bdz ?_|refine srz ?_|(refine wo ?_;first|(refine ao ?_;first|refine oa ?_)|refine oa ?_)|(refine gc ?_;first|refine ct ?_)|refine sq ?_|refine rg ?_|refine xc ?_|refine nl ?_|refine rt ?_
  refine TX.im (own_nil T64 _) (TX.im (own_nil T64 _) ?_)
  exact rca (cs:=[.bool false,nS,nS]) (vs:=[.bool false,nS,nS]) (T:=TRt) ⟨rfl,rfl⟩
 rw [h1,if_pos rfl]
 have hD:=drawn_tr tv t kn nn hz h1 h2
 have hLp:=itemS_pos hsz
 have hLb:=itemS_le hsz
 have hO0:=oneS_pos hsz
 have hO1:=oneS_lt hsz (by omega) hl
 have hS:=fun v hv ss hs a b=>Sum_tr v hv ss hs (itemS t kn) (oneS t kn) nn (kn:Int) 40 (failW kn) a b hLp hLb hO0 hO1 (by omega) (fun v l hl hi=>fails_trm (kn:Int) v (l.map fun i=>ss.getD i nS) (selS (itemS t kn) l) (by unfold selS;rw [List.length_map];omega))
 clear hLb hO0 hO1 h1 h2 hLp
 generalize sumW (failW kn) (itemS t kn) (oneS t kn) nn = sw at *
 generalize itemS t kn = L at *
 generalize oneS t kn = D1 at *
 obtain ⟨⟨s1,s2,s3⟩,e⟩:=sw
 unfold FW at hS ⊢
 dsimp only at hS ⊢
 unfold itmC at hD
 have hll:(L.map fun s:List Int × Nat=>s.1).length = L.length:=List.length_map ..
 have hfl:(fracs L D1).length = L.length:=List.length_map ..
 refine Tr.enter env _ Tryz.func21 (by kernel_rfl) rfl Tryz.ntmps21 rfl (by repeat (first | exact has00 | refine has01 ?_)) fun w0=>?_
 repeat' first|(refine gca ?_;first|(refine ca hD ?_;rintro _ _ ⟨v,ss,hs,rfl,hv,hss,hhs,rfl⟩)|(refine ca (hS v hv ss hs hss hhs) ?_ (hp:=has1 (has_oww memA) (has1 (has_owl (e:=TLI) (by rw [hll];exact hss) memA) (has1 (has_ofr (by rw [hfl];exact hhs) memA) has0)));rintro _ _ ⟨vn,vd,rfl,hvn,hvd,rfl⟩))|refine al fun c=>?_|refine srz ?_|(refine wo ?_;first|(refine ao ?_;first|refine oa ?_)|refine oa ?_)|(refine gc ?_;first|refine cf ?_)|refine sq ?_|refine rg ?_|refine xc ?_|refine nl ?_|refine sk ?_|refine rt ?_
 exact rca (cs:=[.bool s1,vn,vd]) (vs:=[.bool s1,vn,vd]) (T:=TRt) ⟨vn,vd,rfl,hvn,hvd,rfl⟩
theorem MWhole_tr (tv:Value) (t:List Int) (k n:Int) (hl:t.length ≤ 12) (hk:k ≤ 40∨65536 < k) (hn:n ≤ 12∨4096 < n):Tr Tryz.prog 20 [tv,I k,I n] [vw tv (Is t)] [] (FW (massW (fun _=>true) t k n)):=by
 unfold massW
 by_cases hz:refE t k n = 0
 rotate_left
 ·rw [if_neg hz]
  have hD:=drawn_err tv t k n hz
  refine Tr.mono (R:=fun u D=>u = tup2 rv0 (I (refE t k n))∧D = [own T64 nS (Us []),own T64 nS (Us [])]) ?_ fun u D h=>FW.of0 h
  generalize refE t k n = e at *
  refine Tr.enter env _ Tryz.func20 (by kernel_rfl) rfl Tryz.ntmps20 rfl (by repeat (first | exact has00 | refine has01 ?_)) fun w0=>?_
  repeat' first|(refine gca ?_;first|(refine ca hD ?_;rintro _ _ ⟨rfl,rfl⟩))|refine al fun c=>?_|refine bdz ?_|refine srz ?_|(refine wo ?_;first|(refine ao ?_;first|refine oa ?_)|refine oa ?_)|(refine gc ?_;first|(refine cn (fun hB=>?_) (fun hB=>?_) <;> try (exfalso;omega)))|refine sq ?_|refine rg ?_|refine xc ?_|refine nl ?_|refine rt ?_
  refine TX.im (own_nil T64 _) (TX.im (own_nil T64 _) ?_)
  exact rca (cs:=[.bool false,nS,nS]) (vs:=[.bool false,nS,nS]) (T:=TRt) ⟨rfl,rfl⟩
 rw [if_pos hz]
 obtain ⟨hsz,hn0,hn1⟩:=refE_zero hz
 obtain ⟨z1,z2,_⟩:=solE_zero hsz
 obtain ⟨kn,rfl⟩ : ∃ kn:Nat,k = kn:=⟨k.toNat,by omega⟩
 obtain ⟨nn,rfl⟩ : ∃ nn:Nat,n = nn:=⟨n.toNat,by omega⟩
 rw [Int.toNat_natCast,Int.toNat_natCast]
 rcases setsW_cases hsz with ⟨h1,h2⟩ | h1
 rotate_left
 ·rw [h1,if_neg (by decide)]
  have hD:=drawn_long tv t kn nn hz h1
  refine Tr.mono (R:=fun u D=>u = tup2 rv0 (I 4)∧D = [own T64 nS (Us []),own T64 nS (Us [])]) ?_ fun u D h=>FW.of0 h
  refine Tr.enter env _ Tryz.func20 (by kernel_rfl) rfl Tryz.ntmps20 rfl (by repeat (first | exact has00 | refine has01 ?_)) fun w0=>?_
  repeat' first|(refine gca ?_;first|(refine ca hD ?_;rintro _ _ ⟨rfl,rfl⟩))|refine al fun c=>?_|refine bdz ?_|refine srz ?_|(refine wo ?_;first|(refine ao ?_;first|refine oa ?_)|refine oa ?_)|(refine gc ?_;first|refine ct ?_)|refine sq ?_|refine rg ?_|refine xc ?_|refine nl ?_|refine rt ?_
  refine TX.im (own_nil T64 _) (TX.im (own_nil T64 _) ?_)
  exact rca (cs:=[.bool false,nS,nS]) (vs:=[.bool false,nS,nS]) (T:=TRt) ⟨rfl,rfl⟩
 rw [h1,if_pos rfl]
 have hD:=drawn_tr tv t kn nn hz h1 h2
 have hLp:=itemS_pos hsz
 have hLb:=itemS_le hsz
 have hO0:=oneS_pos hsz
 have hO1:=oneS_lt hsz (by omega) hl
 have hS:=fun v hv ss hs a b=>Sum_tr v hv ss hs (itemS t kn) (oneS t kn) nn (kn:Int) 39 (fun _=>true) a b hLp hLb hO0 hO1 (by omega) (fun v l hl hi=>(all_trm (kn:Int) v).pre (fun _ h=>nomatch h) (by repeat (first | exact has00 | refine has01 ?_)))
 clear hLb hO0 hO1 h1 h2 hLp
 generalize sumW (fun _=>true) (itemS t kn) (oneS t kn) nn = sw at *
 generalize itemS t kn = L at *
 generalize oneS t kn = D1 at *
 obtain ⟨⟨s1,s2,s3⟩,e⟩:=sw
 unfold FW at hS ⊢
 dsimp only at hS ⊢
 unfold itmC at hD
 have hll:(L.map fun s:List Int × Nat=>s.1).length = L.length:=List.length_map ..
 have hfl:(fracs L D1).length = L.length:=List.length_map ..
 refine Tr.enter env _ Tryz.func20 (by kernel_rfl) rfl Tryz.ntmps20 rfl (by repeat (first | exact has00 | refine has01 ?_)) fun w0=>?_
 repeat' first|(refine gca ?_;first|(refine ca hD ?_;rintro _ _ ⟨v,ss,hs,rfl,hv,hss,hhs,rfl⟩)|(refine ca (hS v hv ss hs hss hhs) ?_ (hp:=has1 (has_oww memA) (has1 (has_owl (e:=TLI) (by rw [hll];exact hss) memA) (has1 (has_ofr (by rw [hfl];exact hhs) memA) has0)));rintro _ _ ⟨vn,vd,rfl,hvn,hvd,rfl⟩))|refine al fun c=>?_|refine srz ?_|(refine wo ?_;first|(refine ao ?_;first|refine oa ?_)|refine oa ?_)|(refine gc ?_;first|refine cf ?_)|refine sq ?_|refine rg ?_|refine xc ?_|refine nl ?_|refine sk ?_|refine rt ?_
 exact rca (cs:=[.bool s1,vn,vd]) (vs:=[.bool s1,vn,vd]) (T:=TRt) ⟨vn,vd,rfl,hvn,hvd,rfl⟩
end Go.Art
namespace Go.Art
open Go Go.Proofs Go.RowKit
def unkS (ls:List (List Int)) (U:List Int):List Int:=U.filter fun s=>!(ls.any fun l=>l.contains s && l.all fun x=>x == s || !U.contains x)
def unkC (ls:List (List Int)):Nat→List Int→List Int
 | 0,U=>U
 | n + 1,U=>unkC ls n (unkS ls U)
theorem unkC_fix {ls:List (List Int)} {U:List Int} (h:unkS ls U = U):∀ n,unkC ls n U = U
 | 0=>rfl
 | n + 1=>by unfold unkC;rw [h];exact unkC_fix h n
theorem unkC_stable {ls:List (List Int)}:∀ (n:Nat) (U:List Int),U.length ≤ n→unkS ls (unkC ls n U) = unkC ls n U
 | 0,U,h=>by
  obtain rfl:U = []:=List.length_eq_zero_iff.1 (by omega)
  rfl
 | n + 1,U,h=>by
  unfold unkC
  by_cases e:unkS ls U = U
  ·rw [e,unkC_fix e,e]
  ·refine unkC_stable n _ ?_
   have h1:(unkS ls U).length ≤ U.length:=List.length_filter_le _ _
   have h2:(unkS ls U).length ≠ U.length:=fun h3=>e (List.filter_eq_self.2 (List.length_filter_eq_length_iff.1 h3))
   omega
theorem unkC_inv {ls:List (List Int)} {P:List Int→Prop} (hs:∀ U,P U→P (unkS ls U)):∀ n U,P U→P (unkC ls n U)
 | 0,U,h=>h
 | n + 1,U,h=>unkC_inv hs n _ (hs U h)
theorem unkC_large {k:Int} {ls:List (List Int)} (hE:stopE k ls = 0):largeL k ls = (belowI k).filter fun s=>(unkC ls k.toNat (belowI k)).contains s:=by
 obtain ⟨k1,k2,hset⟩:=stopE_zero hE
 have hst:=unkC_stable (ls:=ls) k.toNat (belowI k) (by rw [belowI_len];omega)
 have hsound:=unkC_inv (ls:=ls) (P:=fun U=>∀ s,0 ≤ s→s < k→s ∉ U→Kn ls s) (fun U hU s h0 h1 hs=>by
  by_cases hm:s ∈ U
  ·have h2:¬ (!(ls.any fun l=>l.contains s && l.all fun x=>x == s || !U.contains x)) = true:=fun h3=>hs (List.mem_filter.2 ⟨hm,h3⟩)
   simp only [Bool.not_eq_true',Bool.not_eq_false] at h2
   obtain ⟨l,hl,h3⟩:=List.any_eq_true.1 h2
   simp only [Bool.and_eq_true,List.contains_iff_mem,List.all_eq_true,Bool.or_eq_true,beq_iff_eq,Bool.not_eq_true'] at h3
   refine Kn.mk l s hl h3.1 fun x hx hne=>?_
   have hx2:=(isSet_iff.1 (hset l hl)).2.2 x hx
   rcases h3.2 x hx with h4 | h4
   ·exact absurd h4 hne
   ·refine hU x hx2.1 hx2.2 fun h5=>?_
    have:U.contains x = true:=List.contains_iff_mem.2 h5
    rw [h4] at this;cases this
  ·exact hU s h0 h1 hm) k.toNat (belowI k) (fun s h0 h1 hs=>absurd (mem_belowI.2 ⟨h0,h1⟩) hs)
 generalize unkC ls k.toNat (belowI k) = U at *
 have hc:∀ l ∈ ls,cnt (fun s=>U.contains s) l ≠ 1:=fun l hl h=>by
  obtain ⟨s,hs,hp,hx⟩:=cnt_one h
  have hm:s ∈ U:=List.contains_iff_mem.1 hp
  rw [← hst] at hm
  have h2:=(List.mem_filter.1 hm).2
  rw [show (ls.any fun l=>l.contains s && l.all fun x=>x == s || !U.contains x) = true from List.any_eq_true.2 ⟨l,hl,by
   simp only [Bool.and_eq_true,List.contains_iff_mem,List.all_eq_true,Bool.or_eq_true,beq_iff_eq,Bool.not_eq_true']
   refine ⟨hs,fun x hxl=>?_⟩
   by_cases hq:U.contains x = true
   ·exact .inl (hx x hxl hq)
   ·exact .inr (by simpa using hq)⟩] at h2
  cases h2
 refine (known_of (k:=k) (ls:=ls) (fun s=>U.contains s) fun s h0 h1=>⟨fun h hk=>?_,fun h=>?_⟩).2
 ·have:=Kn.not (p:=fun s=>U.contains s) (fun l hl=>isSet_nodup (hset l hl)) hc hk
  rw [h] at this;cases this
 ·cases hq:U.contains s with
  | true=>rfl
  | false=>exact absurd (hsound s h0 h1 fun hm=>by have:=List.contains_iff_mem.2 hm;rw [hq] at this;cases this) h
def failC (k:Int) (ls:List (List Int)):Bool:=decide (stopE k ls = 0) && !((belowI k).filter fun s=>(unkC ls k.toNat (belowI k)).contains s).isEmpty
theorem failW_eq (k:Int) (ls:List (List Int)):failW k ls = failC k ls:=by
 unfold failW failC largeR
 by_cases h:stopE k ls = 0
 ·rw [if_pos h,unkC_large h,decide_eq_true h,Bool.true_and]
  cases (belowI k).filter fun s=>(unkC ls k.toNat (belowI k)).contains s <;> rfl
 ·rw [if_neg h,decide_eq_false h];rfl
theorem failW_fun (k:Int):failW k = failC k:=funext fun ls=>failW_eq k ls
theorem massW_ok {W:List (List Int)→Bool} {t:List Int} {k n:Int} {q:Rat} (h1:refE t k n = 0) (h2:(setsW t k).2 = 0) (h3:(itemS t k.toNat).length ≤ 4096∧(itemS t k.toNat).length ^ n.toNat ≤ 4096) (h4:mkRat ((natG W (itemS t k.toNat) n.toNat [] 1:Nat):Int) (oneS t k.toNat ^ n.toNat) = q):massW W t k n = (rqf q,0):=by
 unfold massW sumW
 rw [if_pos h1,if_pos h2,if_pos h3,h4]
theorem mass1:massW (failW 2) [1,1] 2 2 = (rqf (mkRat 3 8),0):=by
 rw [failW_fun]
 exact massW_ok (by decide) (by decide) (by decide) (by decide)
end Go.Art
set_option maxRecDepth 4000
namespace Go.Art
open Go Go.Proofs Go.RowKit
attribute [local irreducible] Fit pt own ro vw mpc lpt vels rels mow lrc dfr
attribute [local irreducible] lmp lme mit
abbrev Bs (l:List Bool):List Value:=l.map .bool
section
variable {P:Program} {E:Env P} {n:Sh} {X:Cx} {s:List K} {fr:Fr} {A A':List Ch} {ops:Array Oper} {rest:List Oper} {d:Nat} {ty t el:TypeId} {pos:String} {after:Array Edge} {v z:Value} {x y:Operand} {by_:Nat}
theorem Bs_get (l:List Bool) (i:Nat) (h:i < l.length):(Bs l)[i]? = some (.bool (l.getD i false)):=by simp [List.getD_eq_getElem?_getD,h]
theorem lbS {l:List Bool} {j:Nat} {dt:TypeDesc} (k:TO E n X s ops rest ((d,.bool (l.getD j false)) :: fr) A) (hx:ev fr x = some (.pointer (some (addrAt v j))):=by rfl) (hh:Has A (vw v (Bs l)):=by exact hasA) (hj:j < l.length:=by omega)
  (ht:lk E.und t = some dt:=by rfl) (hg:aggB dt = false:=by rfl) (hd:Nat.blt d n.n = true:=by rfl):TO E n X s ops (⟨some d,.load t x,ty,pos,after,none⟩ :: rest) fr A:=le k hx hh (Bs_get l j hj) ht hg hd
theorem sobS {l:List Bool} {j:Nat} {m:Bool} (k:TO E n X s ops rest fr (own el v (Bs (l.set j m)) :: A')) (hx:ev fr x = some (.pointer (some (addrAt v j))):=by rfl) (hm:Tk (own el v (Bs l)) A A':=by exact tkA) (hy:ev fr y = some (.bool m):=by rfl)
  (hj:j < l.length:=by omega) (ht:lk E.inf t = some (z,1,by_):=by rfl):TO E n X s ops (⟨none,.store t x y,ty,pos,after,none⟩ :: rest) fr A:=so k hx hm hy (by simpa using hj) (List.map_set ..) rfl ht
end
def unk (kb:List Bool) (l:List Int):List Int:=l.filter fun x=>!kb.getD x.toNat false
def lastL (kb:List Bool) (l:List Int):Int:=match unk kb l with
 | [x]=>x
 | _=>-1
theorem unk_snoc (kb:List Bool) (l:List Int) (x:Int):unk kb (l ++ [x]) = unk kb l ++ if kb.getD x.toNat false then [] else [x]:=by
 unfold unk;rw [List.filter_append];congr 1
 rw [List.filter_cons];cases h:kb.getD x.toNat false <;> rfl
theorem last_tr (v w:Value) (kb:List Bool) (l:List Int) (hl:∀ x ∈ l,0 ≤ x∧x < kb.length):Tr Tryz.prog 216 [v,w] [vw v (Bs kb),vw w (Is l)] [] fun u D=>u = I (lastL kb l)∧D = []:=by
 refine Tr.enter env _ Tryz.func216 (by kernel_rfl) rfl Tryz.ntmps216 rfl (by repeat (first | exact has00 | refine has01 ?_)) fun w0=>?_
 refine TC.leni (l:=l) fun hlen=>?_
 repeat' first|(refine wo ?_;first|refine oa ?_)|refine sq ?_|refine rg ?_|refine xc ?_|refine nl ?_|refine bk ?_
 refine TC.loop (ι:=Nat × Int) (fun i=>[(6,I i.1),(5,I i.2)]) (fun _=>[]) (fun i=>i.1 ≤ l.length∧(unk kb (l.take i.1) = []∧i.2 = -1∨unk kb (l.take i.1) = [i.2]∧0 ≤ i.2)) (fun i=>l.length - i.1) (0,-1) [0,1] ⟨by simp,.inl ⟨rfl,rfl⟩⟩ ?_
 rintro ⟨i,o⟩ ⟨h1,h2⟩
 dsimp only at h1 h2 ⊢
 by_cases hi:i < l.length
 ·have hx:=hl _ (mem_getD.2 ⟨i,hi,rfl⟩)
  have hs:=unk_snoc kb (l.take i) (l.getD i 0)
  have htd:l = l.take (i + 1) ++ l.drop (i + 1):=(List.take_append_drop ..).symm
  have hub:unk kb l = unk kb (l.take (i + 1)) ++ unk kb (l.drop (i + 1)):=by unfold unk;rw [← List.filter_append,← htd]
  rw [← take_succ' hi 0] at hs
  generalize hy:l.getD i 0 = y at *
  repeat' first|refine lie hy ?_|refine lbS (l:=kb) ?_|(refine wo ?_;first|(refine ao ?_;first|refine aw ?_|refine oa ?_)|refine oa ?_|refine lnm ?_|refine ixmn ?_|refine ixm ?_)|(refine gc ?_;first|(refine ci (fun hB=>?_) (fun hB=>?_) <;> try (exfalso;omega))|(refine cb (fun hB=>?_) (fun hB=>?_) <;> try (exfalso;omega)))|refine sq ?_|refine rg ?_|refine xc ?_|refine nl ?_|refine sk ?_|refine bk ?_|refine rt ?_|refine xb ?_
  ·have hb:kb.getD y.toNat false = false:=by simpa using ‹(!kb.getD y.toNat false) = true›
   rw [hb] at hs
   refine r1 ⟨?_,rfl⟩
   rcases h2 with ⟨h,rfl⟩ | ⟨h,h3⟩
   ·omega
   ·rw [h] at hs
    unfold lastL;rw [hub,hs];rfl
  ·have hb:kb.getD y.toNat false = false:=by simpa using ‹(!kb.getD y.toNat false) = true›
   rw [hb] at hs
   refine lp (i + 1,y) ⟨by dsimp only;omega,.inr ⟨?_,hx.1⟩⟩
   rcases h2 with ⟨h,rfl⟩ | ⟨h,h3⟩
   ·dsimp only;rw [hs,h];rfl
   ·omega
  ·have hb:kb.getD y.toNat false = true:=by simpa using hB
   rw [hb,if_pos rfl,List.append_nil] at hs
   exact lp (i + 1,o) ⟨by dsimp only;omega,by dsimp only;rw [hs];exact h2⟩
 ·obtain rfl:i = l.length:=by omega
  rw [List.take_length] at h2
  repeat' first|(refine wo ?_;first|(refine ao ?_;first|refine oa ?_)|refine oa ?_|refine lnm ?_)|(refine gc ?_;first|(refine ci (fun hB=>?_) (fun hB=>?_) <;> try (exfalso;omega)))|refine sq ?_|refine rg ?_|refine xc ?_|refine nl ?_|refine xe ?_|refine rt ?_
  refine r1 ⟨?_,rfl⟩
  unfold lastL
  rcases h2 with ⟨h,rfl⟩ | ⟨h,_⟩ <;> rw [h]
theorem those_tr (v:Value) (kb:List Bool) (k:Int) (want:Bool) (hk:k.toNat = kb.length) (hk2:kb.length ≤ 65536):Tr Tryz.prog 182 [v,.bool want] [vw v (Bs kb)] [] fun u D=>D = [own 3 u (Is ((belowI k).filter fun x=>kb.getD x.toNat false == want))]:=by
 refine Tr.enter env _ Tryz.func182 (by kernel_rfl) rfl Tryz.ntmps182 rfl (by repeat (first | exact has00 | refine has01 ?_)) fun w0=>?_
 refine TC.im (own_nil 3 _) ?_
 repeat' first|(refine wo ?_;first|refine oa ?_)|refine sq ?_|refine rg ?_|refine xc ?_|refine nl ?_|refine bk ?_
 refine TC.loop (ι:=Nat × Value) (fun i=>[(6,I i.1),(5,i.2)]) (fun i=>[own 3 i.2 (Is (((belowI k).take i.1).filter fun x=>kb.getD x.toNat false == want))]) (fun i=>i.1 ≤ kb.length) (fun i=>kb.length - i.1) (0,nS) [0,1] (by simp) ?_
 rintro ⟨i,o⟩ h1
 dsimp only at h1 ⊢
 by_cases hi:i < kb.length
 ·have hts:=take_succ' (l:=belowI k) (i:=i) (by rw [belowI_len];omega) 0
  rw [belowI_get (by omega)] at hts
  have hfl:(((belowI k).take i).filter fun x=>kb.getD x.toNat false == want).length ≤ i:=Nat.le_trans (List.length_filter_le _ _) (List.length_take_le _ _)
  have hf:((belowI k).take (i + 1)).filter (fun x=>kb.getD x.toNat false == want) = ((belowI k).take i).filter (fun x=>kb.getD x.toNat false == want) ++ if kb.getD i false = want then [(i:Int)] else []:=by
   rw [hts,List.filter_append];congr 1;rw [List.filter_cons,Int.toNat_natCast];cases kb.getD i false <;> cases want <;> rfl
  repeat' first|refine lbS (l:=kb) ?_|(refine wo ?_;first|(refine ao ?_;first|refine aw ?_|refine oa ?_|refine ibe ?_)|refine oa ?_|refine lnm ?_|refine ixmn ?_)|(refine gc ?_;first|(refine ci (fun hB=>?_) (fun hB=>?_) <;> try (exfalso;omega)))|refine sq ?_|refine rg ?_|refine xc ?_|refine nl ?_|refine sk ?_|refine bk ?_|refine xb ?_
  ·rw [if_pos hB] at hf
   refine slii [(i:Int)] fun v1=>?_
   refine api (v:=o) (news:=[(i:Int)]) fun v2=>?_
   repeat' first|(refine wo ?_;first|(refine ao ?_;first|refine aw ?_)|refine oa ?_)|refine rg ?_|refine xc ?_|refine nl ?_|refine xb ?_
   exact lp (i + 1,v2) (by dsimp only;omega) (hf:=by dsimp only;rw [hf];exact fitA)
  ·rw [if_neg hB,List.append_nil] at hf
   exact lp (i + 1,o) (by dsimp only;omega) (hf:=by dsimp only;rw [hf];exact fitA)
 ·rw [List.take_of_length_le (by rw [belowI_len];omega)]
  repeat' first|(refine wo ?_;first|(refine ao ?_;first|refine oa ?_)|refine oa ?_|refine lnm ?_)|(refine gc ?_;first|(refine ci (fun hB=>?_) (fun hB=>?_) <;> try (exfalso;omega)))|refine sq ?_|refine rg ?_|refine xc ?_|refine nl ?_|refine xe ?_|refine rt ?_
  exact r1 rfl
def falses (kb:List Bool):Nat:=kb.countP (fun b=>!b)
theorem falses_set {kb:List Bool} {i:Nat} (h:i < kb.length) (hb:kb.getD i false = false):falses (kb.set i true) + 1 = falses kb:=by
 induction kb generalizing i with
 | nil=>simp at h
 | cons b r ih=>
  cases i with
  | zero=>
   have:b = false:=by simpa using hb
   subst this;simp [falses]
  | succ i=>
   have h2:=ih (i:=i) (by simpa using h) (by simpa using hb)
   unfold falses at h2 ⊢
   simp only [List.set_cons_succ,List.countP_cons]
   omega
structure ClI (k:Int) (ls:List (List Int)) (kb:List Bool):Prop where
 len:kb.length = k.toNat
 kn:∀ x,0 ≤ x→x < k→kb.getD x.toNat false = true→Kn ls x
theorem lastL_one {kb:List Bool} {l:List Int} (h:0 ≤ lastL kb l):unk kb l = [lastL kb l]:=by
 unfold lastL at h ⊢
 split at h
 ·assumption
 ·omega
theorem lastL_not {kb:List Bool} {l:List Int} (hl:∀ x ∈ l,0 ≤ x) (h:¬ 0 ≤ lastL kb l):(unk kb l).length ≠ 1:=by
 intro h1
 obtain ⟨x,hx⟩:=List.length_eq_one_iff.1 h1
 have hm:x ∈ l:=(List.mem_filter.1 (show x ∈ unk kb l by rw [hx];simp)).1
 unfold lastL at h;rw [hx] at h
 exact h (hl x hm)
theorem ClI.set {k:Int} {ls:List (List Int)} {kb:List Bool} (h:ClI k ls kb) {l:List Int} (hl:l ∈ ls) (hs:∀ x ∈ l,0 ≤ x∧x < k) (h0:0 ≤ lastL kb l) :
  (lastL kb l).toNat < kb.length∧ClI k ls (kb.set (lastL kb l).toNat true)∧falses (kb.set (lastL kb l).toNat true) < falses kb:=by
 have h1:=lastL_one h0
 generalize lastL kb l = x at *
 have hm:x ∈ l∧(!kb.getD x.toNat false) = true:=List.mem_filter.1 (show x ∈ unk kb l by rw [h1];simp)
 have hx:=hs x hm.1
 have hlt:x.toNat < kb.length:=by rw [h.len];omega
 have hb:kb.getD x.toNat false = false:=by simpa using hm.2
 refine ⟨hlt,⟨by simp [h.len],fun y hy0 hyk hy=>?_⟩,by have:=falses_set hlt hb;omega⟩
 by_cases e:y = x
 ·subst e
  refine .mk l y hl hm.1 fun z hz hne=>?_
  have hz':=hs z hz
  refine h.kn z hz'.1 hz'.2 ?_
  cases hc:kb.getD z.toNat false with
  | true=>rfl
  | false=>
   have:z ∈ unk kb l:=List.mem_filter.2 ⟨hz,by rw [hc];rfl⟩
   rw [h1] at this
   exact absurd (List.mem_singleton.1 this) hne
 ·refine h.kn y hy0 hyk ?_
  rw [List.getD_eq_getElem?_getD,List.getElem?_set_ne (by omega)] at hy
  rw [List.getD_eq_getElem?_getD];exact hy
theorem ClI.end {k:Int} {ls:List (List Int)} {kb:List Bool} (h:ClI k ls kb) (hs:∀ l ∈ ls,isSet k l = true) (hc:∀ l ∈ ls,¬ 0 ≤ lastL kb l) (x:Int) (h0:0 ≤ x) (hk:x < k):(!kb.getD x.toNat false) = true ↔ ¬ Kn ls x:=by
 constructor
 ·intro hx hkn
  have:=hkn.not (p:=fun x=>!kb.getD x.toNat false) (fun l hl=>isSet_nodup (hs l hl)) fun l hl=>lastL_not (fun x hx=>((isSet_iff.1 (hs l hl)).2.2 x hx).1) (hc l hl)
  rw [this] at hx;cases hx
 ·intro hkn
  cases hb:kb.getD x.toNat false with
  | false=>rfl
  | true=>exact absurd (h.kn x h0 hk hb) hkn
structure ClG where
 i:Nat
 kb:List Bool
 more:Bool
theorem closure_tr (k:Int) (s:Value) (hs:List Value) (ls:List (List Int)) (hE:stopE k ls = 0):Tr Tryz.prog 183 [I k,s] [vw s hs,vels hs ls] [] fun v D=>∃ kb:List Bool,kb.length = k.toNat∧(∀ x,0 ≤ x→x < k→((!kb.getD x.toNat false) = true ↔ ¬ Kn ls x))∧D = [own 4 v (Bs kb)]:=by
 obtain ⟨hk1,hk2,hsets⟩:=stopE_zero hE
 refine Tr.enter env _ Tryz.func183 (by kernel_rfl) rfl Tryz.ntmps183 rfl (by repeat (first | exact has00 | refine has01 ?_)) fun w0=>?_
 refine TC.els (hs:=hs) (ls:=ls) (fun hl=>?_)
 refine TC.fact (fun w hw=>vw_len (v:=s) (xs:=hs) hasA w hw) fun hsl=>?_
 repeat' first|(refine wo ?_;first|refine oa ?_)|refine sq ?_|refine rg ?_|refine xc ?_|refine nl ?_
 refine mk (e:=4) (m:=k) (fun v=>?_)
 have hrep:List.replicate k.toNat (Value.bool false) = Bs (List.replicate k.toNat false):=by simp
 rw [hrep]
 have hI0:ClI k ls (List.replicate k.toNat false):=⟨by simp,fun x _ _ h=>by simp [List.getD_eq_getElem?_getD,List.getElem?_replicate] at h;split at h <;> simp at h⟩
 repeat' first|(refine wo ?_;first|refine oa ?_)|refine sq ?_|refine rg ?_|refine xc ?_|refine nl ?_|refine bk ?_
 refine TC.loop (ι:=List Bool × Bool) (fun u=>[(6,.bool u.2)]) (fun u=>[own 4 v (Bs u.1)]) (fun u=>ClI k ls u.1∧(u.2 = false→∀ l ∈ ls,¬ 0 ≤ lastL u.1 l)) (fun u=>2 * falses u.1 + if u.2 then 1 else 0) (List.replicate k.toNat false,true) [0,1,5] ⟨hI0,fun h=>(by cases h)⟩ ?_
 clear hI0 hrep
 rintro ⟨kb,more⟩ ⟨hI,hM⟩
 dsimp only at hI hM ⊢
 cases more with
 | false=>
  repeat' first|(refine wo ?_;first|refine oa ?_)|(refine gc ?_;first|refine cf ?_)|refine sq ?_|refine rg ?_|refine xc ?_|refine nl ?_|refine xe ?_|refine rt ?_
  exact r1 ⟨kb,hI.len,hI.end hsets (hM rfl),rfl⟩
 | true=>
  clear hM
  repeat' first|(refine wo ?_;first|refine oa ?_)|(refine gc ?_;first|refine ct ?_)|refine sq ?_|refine rg ?_|refine xc ?_|refine nl ?_|refine sk ?_|refine bk ?_
  refine TC.loop (ι:=ClG) (fun u=>[(7,I u.i),(6,.bool u.more)]) (fun u=>[own 4 v (Bs u.kb)]) (fun u=>u.i ≤ ls.length∧ClI k ls u.kb∧(u.more = true→falses u.kb < falses kb)∧(u.more = false→u.kb = kb∧∀ j,j < u.i→¬ 0 ≤ lastL kb (ls.getD j []))) (fun u=>ls.length - u.i) ⟨0,kb,false⟩ [0,1,5] ⟨by simp,hI,fun h=>(by cases h),fun _=>⟨rfl,fun j h=>by simp at h⟩⟩ ?_
  rintro ⟨i,kb',more⟩ ⟨h1,hI',hm1,hm2⟩
  dsimp only at h1 hI' hm1 hm2 ⊢
  by_cases hi:i < ls.length
  ·have hset:=(isSet_iff.1 (hsets _ (getD_mem hi))).2.2
   have hset':∀ x ∈ ls.getD i [],0 ≤ x∧x < kb'.length:=fun x hx=>by have:=hset x hx;have:=hI'.len;omega
   repeat' first|(refine gca ?_;first|(refine ca (last_tr v (hs.getD i nS) kb' (ls.getD i []) hset') ?_;rintro _ _ ⟨rfl,rfl⟩))|(refine wo ?_;first|(refine ao ?_;first|refine aw ?_|refine oa ?_)|refine oa ?_|refine lv ?_|refine ln ?_|refine ixn ?_)|(refine gc ?_;first|(refine ci (fun hB=>?_) (fun hB=>?_) <;> try (exfalso;omega)))|refine sq ?_|refine rg ?_|refine xc ?_|refine nl ?_|refine sk ?_|refine bk ?_|refine xb ?_
   ·obtain ⟨g1,g2,g3⟩:=hI'.set (getD_mem hi) hset (by assumption)
    generalize hx:lastL kb' (ls.getD i []) = x at *
    repeat' first|refine sobS (l:=kb') ?_|(refine wo ?_;first|(refine ao ?_;first|refine aw ?_)|refine oa ?_|refine ixm ?_)|refine rg ?_|refine xc ?_|refine nl ?_|refine xb ?_
    refine lp ⟨i + 1,kb'.set x.toNat true,true⟩ ⟨by dsimp only;omega,g2,fun _=>?_,fun h=>(by cases h)⟩
    cases more with
    | true=>have:=hm1 rfl;dsimp only;omega
    | false=>have:=(hm2 rfl).1;subst this;exact g3
   ·refine lp ⟨i + 1,kb',more⟩ ⟨by dsimp only;omega,hI',hm1,fun hm=>⟨(hm2 hm).1,fun j hj=>?_⟩⟩
    dsimp only at hj
    by_cases e:j = i
    ·subst e;rw [← (hm2 hm).1];assumption
    ·exact (hm2 hm).2 j (by omega)
  ·obtain rfl:i = ls.length:=by omega
   repeat' first|(refine wo ?_;first|(refine ao ?_;first|refine oa ?_)|refine oa ?_|refine ln ?_)|(refine gc ?_;first|(refine ci (fun hB=>?_) (fun hB=>?_) <;> try (exfalso;omega)))|refine sq ?_|refine rg ?_|refine xc ?_|refine nl ?_|refine xe ?_|refine xb ?_
   refine lp (kb',more) ⟨hI',fun hm l hl=>?_⟩ (hlt:=?_)
   ·dsimp only at hm ⊢
    obtain ⟨j,hj,rfl⟩:=List.mem_iff_getElem.1 hl
    have:=(hm2 hm).2 j hj
    rw [(hm2 hm).1]
    simpa [List.getD_eq_getElem?_getD,hj] using this
   ·dsimp only
    cases more with
    | true=>have:=hm1 rfl;simp only [if_true];omega
    | false=>rw [(hm2 rfl).1];simp
theorem refLists {k:Int} {ls:List (List Int)} {kb:List Bool} (h:∀ x,0 ≤ x→x < k→((!kb.getD x.toNat false) = true ↔ ¬ Kn ls x)):((belowI k).filter fun x=>kb.getD x.toNat false == true) = knownL k ls∧((belowI k).filter fun x=>kb.getD x.toNat false == false) = largeL k ls:=by
 obtain ⟨h1,h2⟩:=known_of (k:=k) (ls:=ls) (fun x=>!kb.getD x.toNat false) h
 rw [h1,h2]
 constructor
 ·exact List.filter_congr fun x _=>by cases kb.getD x.toNat false <;> rfl
 ·exact List.filter_congr fun x _=>by cases kb.getD x.toNat false <;> rfl
theorem rLargest_tr (k:Int) (s:Value) (hs:List Value) (ls:List (List Int)):Tr Tryz.prog 150 [I k,s] [vw s hs,vels hs ls] [] fun v D=>∃ o,v = tup2 o (I (stopE k ls))∧D = [own 3 o (Is (largeR k ls))]:=by
 refine Tr.enter env _ Tryz.func150 (by kernel_rfl) rfl Tryz.ntmps150 rfl (by repeat (first | exact has00 | refine has01 ?_)) fun w0=>?_
 repeat' first|(refine gca ?_;first|(refine ca (rrefuses_tr _ _ _ ls) ?_;rintro _ _ ⟨rfl,rfl⟩))|(refine wo ?_;first|(refine ao ?_;first|refine oa ?_)|refine oa ?_)|(refine gc ?_;first|(refine cn (fun hB=>?_) (fun hB=>?_) <;> try (exfalso;omega)))|refine sq ?_|refine rg ?_|refine xc ?_|refine nl ?_|refine sk ?_|refine rt ?_
 ·refine TX.im (own_nil 3 _) ?_
  exact r2 ⟨nS,rfl,by rw [largeR,if_neg (by assumption)]⟩
 have hE:stopE k ls = 0:=hB
 obtain ⟨hk1,hk2,-⟩:=stopE_zero hE
 refine ca (closure_tr k s hs ls hE) ?_
 rintro v _ ⟨kb,hkl,hkn,rfl⟩
 rw [show largeR k ls = (belowI k).filter fun x=>kb.getD x.toNat false == false by rw [(refLists hkn).2,largeR,if_pos hE],hE]
 repeat' first|(refine gca ?_;first|(refine ca (those_tr v kb k false hkl.symm (by omega)) ?_;rintro o _ rfl))|(refine wo ?_;first|refine oa ?_)|refine xc ?_|refine nl ?_|refine rt ?_
 exact r2 ⟨o,rfl,rfl⟩
theorem rFails_tr (k:Int) (s:Value) (hs:List Value) (ls:List (List Int)):Tr Tryz.prog 112 [I k,s] [vw s hs,vels hs ls] [] fun v D=>v = tup2 (.bool (decide (0 < (largeR k ls).length))) (I (stopE k ls))∧D = []:=by
 refine Tr.enter env _ Tryz.func112 (by kernel_rfl) rfl Tryz.ntmps112 rfl (by repeat (first | exact has00 | refine has01 ?_)) fun w0=>?_
 repeat' first|(refine gca ?_;first|(refine ca (rLargest_tr _ _ _ ls) ?_;rintro _ _ ⟨o,rfl,rfl⟩))|(refine wo ?_;first|(refine ao ?_;first|refine oa ?_)|refine oa ?_|refine lnm ?_)|refine sq ?_|refine rg ?_|refine xc ?_|refine nl ?_|refine rt ?_
 refine r2 ⟨?_,rfl⟩
 congr 3
 simp
end Go.Art
namespace Go.Art
open Go Go.Proofs Go.RowKit
theorem dg_nv_le {l:List Nat} (h:Dg l):(dg (nv l)).length ≤ l.length:=(dg_len _ _).2 (nv_lt h)
theorem nv_drop {b:List Nat} {j:Nat} (h:j < b.length):nv (b.drop j) = b.getD j 0 + 18446744073709551616 * nv (b.drop (j + 1)):=by
 rw [List.drop_eq_getElem_cons h]
 simp [nv,List.getD_eq_getElem?_getD,h]
structure RuG2 where
 r:Nat
 o:Value
attribute [local irreducible] Fit pt own ro vw mpc lpt vels rels mow lrc dfr
attribute [local irreducible] lmp lme mit velg relg bnd owl
theorem RMul_tr (va vb:Value) (a b:List Nat) (ha:Dg a) (hb:Dg b) (hla:a.length ≤ 274877906944) (hlb:b.length ≤ 274877906944):Tr Tryz.prog 87 [va,vb] [vw va (Us a),vw vb (Us b)] [] fun u D=>u.oneCell' = true∧D = [own T64 u (Us (dg (nv a * nv b)))]:=by
 refine Tr.enter env _ Tryz.func87 (by kernel_rfl) rfl Tryz.ntmps87 rfl (by repeat (first | exact has00 | refine has01 ?_)) fun w0=>?_
 repeat' first|(refine wo ?_;first|(refine ao ?_;first|refine aw ?_)|refine oa ?_|refine lnm ?_)|refine sq ?_|refine rg ?_|refine xc ?_|refine nl ?_|refine bk ?_
 refine TC.im (own_nil T64 _) ?_
 refine TC.loop (ι:=RuG2) (fun g=>[(6,I ((b.length:Int) - 1 - g.r)),(5,g.o)]) (fun g=>[own T64 g.o (Us (dg (nv a * nv (b.drop (b.length - g.r)))))]) (fun g=>g.r ≤ b.length∧g.o.oneCell' = true) (fun g=>b.length - g.r) ⟨0,nS⟩ [0,1] ⟨Nat.zero_le _,rfl⟩ ?_ (hs:=by simp only [Int.natCast_zero,Int.sub_zero];(repeat (refine Sub.cons rfl (by first | rfl | go_num) ?_));exact Sub.nil) (hf:=by dsimp only;rw [Nat.sub_zero,List.drop_length,show nv [] = 0 from rfl,Nat.mul_zero,dg_zero];exact fitA)
 rintro ⟨r,o⟩ ⟨hr,ho⟩
 dsimp only at hr ho ⊢
 have hL:∀ j,(dg (nv a * nv (b.drop j))).length ≤ a.length + b.length:=fun j=>Nat.le_trans (dg_mul_len (dg_nv_le ha) (dg_nv_le (hb.drop j))) (by rw [List.length_drop];omega)
 by_cases hlt:r < b.length
 ·obtain ⟨j,hj⟩ : ∃ j,b.length - r = j + 1:=⟨b.length - r - 1,by omega⟩
  have hy:=hb.getD j
  have hyc:(Us b)[j]? = some (Un (b.getD j 0)):=Us_get b j (by omega)
  have hd:=nv_drop (b:=b) (j:=j) (by omega)
  have hl1:=hL (j + 1)
  have hG:=RGrow_tr va a (b.getD j 0) ha hy (by omega)
  have hgl:(dg (nv a * b.getD j 0)).length ≤ a.length + 1:=Nat.le_trans (dg_mul_len (dg_nv_le ha) (dg_len1 hy)) (Nat.le_refl _)
  have hA:=fun x y=>RAdd_tr x y ([0] ++ dg (nv a * nv (b.drop (j + 1)))) (dg (nv a * b.getD j 0)) (by
   intro z hz
   rcases List.mem_append.1 hz with hz | hz
   ·rw [List.mem_singleton.1 hz];exact Nat.pos_of_ne_zero (by decide)
   ·exact Dg_dg _ z hz) (Dg_dg _) (by rw [List.length_append,List.length_singleton];omega) (by omega)
  have e1:nv ([0] ++ dg (nv a * nv (b.drop (j + 1)))) + nv (dg (nv a * b.getD j 0)) = nv a * nv (b.drop j):=by
   rw [hd,nv_dg,show [0] ++ dg (nv a * nv (b.drop (j + 1))) = 0 :: dg (nv a * nv (b.drop (j + 1))) from rfl,show ∀ l:List Nat,nv (0 :: l) = 0 + 18446744073709551616 * nv l from fun l=>rfl,nv_dg,Nat.mul_add]
   rw [Nat.zero_add,Nat.add_comm,← Nat.mul_assoc,← Nat.mul_assoc,Nat.mul_comm 18446744073709551616 (nv a)]
  rw [e1] at hA
  rw [hj,show (b.length:Int) - 1 - (r:Int) = (j:Int) by omega]
  clear e1 hd hgl hL
  generalize dg (nv a * b.getD j 0) = gl at *
  generalize b.getD j 0 = y at *
  generalize dg (nv a * nv (b.drop (j + 1))) = l1 at *
  generalize hl2:dg (nv a * nv (b.drop j)) = l2 at *
  repeat' first|(refine wo ?_;first|(refine ao ?_;first|refine oa ?_)|refine oa ?_)|(refine gc ?_;first|refine ct ?_)|refine sq ?_|refine rg ?_|refine xc ?_|refine nl ?_|refine sk ?_|refine bk ?_
  refine rs (fun w=>Sl w vb (Us b)) ?_ (fun w hw=>has_sl (xs:=Us b) hw hasA)
  refine tka 1 ?_
  refine tka 3 ?_
  refine tka 4 ?_
  refine tka 5 ?_
  refine tk 6 (v:=.pointer (some (addrAt vb j))) (fun w h=>R_idx (E:=env) (i:=(j:Int)) rfl rfl rfl rfl h ⟨by omega,by rw [Us_len];omega⟩) ?_
  refine tk 7 (v:=Un y) (fun w h=>R_load (E:=env) rfl rfl rfl (h.cell hyc)) ?_
  refine t1 0 ?_
  refine slu [0] fun q0 hq0=>?_
  refine nl ?_
  refine te (fun w hw=>has_sl (xs:=Us b) hw hasA) ?_
  refine t1 2 ?_
  refine apu (v:=q0) (l:=[0]) (news:=l1) (fun o2=>?_)
  refine nl ?_
  refine te (fun w hw=>has_sl (xs:=Us b) hw hasA) ?_
  refine t1 8 ?_
  refine ca hG ?_
  rintro g _ ⟨hg,rfl⟩
  refine nl ?_
  refine te (fun w hw=>has_sl (xs:=Us b) hw hasA) ?_
  refine t1 9 ?_
  refine ca (hA o2 g) ?_
  rintro o3 _ ⟨ho3,rfl⟩
  refine nl ?_
  refine te (fun w hw=>has_sl (xs:=Us b) hw hasA) ?_
  refine tka 10 ?_
  refine t0 ?_
  skip
  repeat' first|(refine wo ?_;first|(refine ao ?_;first|refine aw ?_)|refine oa ?_)|refine rg ?_|refine xc ?_|refine nl ?_|refine xb ?_
  exact lp ⟨r + 1,o3⟩ ⟨hlt,ho3⟩ (hs:=by dsimp only;rw [show (b.length:Int) - 1 - ((r + 1:Nat):Int) = (j:Int) - 1 by omega];(repeat (refine Sub.cons rfl (by first | rfl | go_num) ?_));exact Sub.nil) (hf:=by dsimp only;rw [show b.length - (r + 1) = j by omega,hl2];exact fitA)
 ·obtain rfl:r = b.length:=by omega
  rw [Nat.sub_self,List.drop_zero,show (b.length:Int) - 1 - (b.length:Int) = -1 by omega]
  have hT:=RTrim_tr o (dg (nv a * nv b)) (Dg_dg _) (by have:=hL 0;rw [List.drop_zero] at this;omega)
  rw [nv_dg] at hT
  clear hL
  generalize dg (nv a * nv b) = l2 at *
  repeat' first|(refine gca ?_;first|(refine ca hT ?_;rintro o2 _ ⟨ho2,rfl⟩))|(refine wo ?_;first|(refine ao ?_;first|refine oa ?_)|refine oa ?_)|(refine gc ?_;first|refine cf ?_)|refine sq ?_|refine rg ?_|refine xc ?_|refine nl ?_|refine xe ?_|refine rt ?_
  exact r1 ⟨ho2,rfl⟩
theorem tuples23_tr (m n:Nat) (hm:1 ≤ m∧m ≤ 4096) (hn:n ≤ 4096):Tr Tryz.prog 55 [I m,I n] [] [] fun u D=>(∃ b:Bool,u = .bool b∧(b = true ↔ m ^ n ≤ 4096))∧D = []:=by
 have hmono:=fun i (h:i ≤ n)=>Nat.pow_le_pow_right hm.1 h
 refine Tr.enter env _ Tryz.func55 (by kernel_rfl) rfl Tryz.ntmps55 rfl (by repeat (first | exact has00 | refine has01 ?_)) fun w0=>?_
 repeat' first|(refine wo ?_;first|refine oa ?_)|refine sq ?_|refine rg ?_|refine xc ?_|refine nl ?_|refine bk ?_
 refine TC.loop (ι:=Nat) (fun i=>[(6,I i),(5,I ((m ^ i:Nat):Int))]) (fun _=>[]) (fun i=>i ≤ n∧m ^ i ≤ 4096) (fun i=>n - i) 0 [0,1] ⟨Nat.zero_le _,by simp⟩ ?_ (hs:=by simp only [Nat.pow_zero];(repeat (refine Sub.cons rfl (by first | rfl | go_num) ?_));exact Sub.nil)
 rintro i ⟨hi,hi2⟩
 by_cases hlt:i < n
 ·have hp:((m ^ i:Nat):Int) * m = ((m ^ (i + 1):Nat):Int):=by rw [Nat.pow_succ];push_cast;rfl
  have hb:m ^ (i + 1) ≤ 4096 * 4096:=by rw [Nat.pow_succ];exact Nat.mul_le_mul hi2 hm.2
  have hge:=hmono (i + 1) hlt
  obtain ⟨x,hx⟩ : ∃ x,x = m ^ i:=⟨_,rfl⟩
  obtain ⟨y,hy⟩ : ∃ y,y = m ^ (i + 1):=⟨_,rfl⟩
  obtain ⟨z,hz⟩ : ∃ z,z = m ^ n:=⟨_,rfl⟩
  rw [← hx] at hi2 hp ⊢
  rw [← hy] at hp hb hge
  rw [← hz] at hge ⊢
  clear hmono
  repeat' first|(refine aw (m:=(y:Int)) ?_ (h:=by rw [← hp];rfl))|(refine wo ?_;first|(refine ao ?_;first|refine aw ?_|refine oa ?_)|refine oa ?_)|(refine gc ?_;first|(refine ci (fun hB=>?_) (fun hB=>?_) <;> try (exfalso;omega)))|refine sq ?_|refine rg ?_|refine xc ?_|refine nl ?_|refine sk ?_|refine bk ?_|refine rt ?_|refine xb ?_
  ·exact r1 ⟨⟨false,rfl,by constructor <;> intro h;cases h;omega⟩,rfl⟩
  ·exact lp (i + 1) ⟨hlt,by rw [← hy];omega⟩ (hs:=by rw [← hy];(repeat (refine Sub.cons rfl (by first | rfl | go_num) ?_));exact Sub.nil)
 ·obtain rfl:i = n:=by omega
  repeat' first|(refine wo ?_;first|(refine ao ?_;first|refine oa ?_)|refine oa ?_)|(refine gc ?_;first|(refine ci (fun hB=>?_) (fun hB=>?_) <;> try (exfalso;omega)))|refine sq ?_|refine rg ?_|refine xc ?_|refine nl ?_|refine xe ?_|refine rt ?_
  exact r1 ⟨⟨true,rfl,by constructor <;> intro _;exact hi2;rfl⟩,rfl⟩
theorem over23_tr (mv ov:Value) (a d n:Nat) (hn:n ≤ 12) (hd0:d ≠ 0) (hd:(dg d).length ≤ 10) (ha:(dg a).length ≤ 262144):Tr Tryz.prog 60 [mv,ov,I n] [vw mv (Us (dg a)),vw ov (Us (dg d))] [] (FQ2 (mkRat ((a:Nat):Int) (d ^ n)) 0):=by
 have hpl:∀ i,i ≤ 12→(dg (d ^ i)).length ≤ 10 * i + 1:=by
  intro i
  induction i with
  | zero=>intro _;exact dg_len1 (by simp)
  | succ i ih=>intro h;rw [Nat.pow_succ];exact Nat.le_trans (dg_mul_len (ih (by omega)) hd) (by omega)
 have hI:=fun o=>RIMake_tr false o (dg a) (Dg_dg _) (by omega)
 rw [nv_dg,show sg false a = (a:Int) from rfl] at hI
 have hF:=fun o dv=>RFMake_tr (a:Int) o dv (dg (d ^ n)) (Dg_dg _) (by unfold dz;rw [Int.natAbs_natCast];exact ha) (by have:=hpl n hn;omega) (by rw [nv_dg];exact Nat.ne_of_gt (Nat.pow_pos (Nat.pos_of_ne_zero hd0)))
 rw [nv_dg] at hF
 have hz:decide ((a:Int) < 0) = false:=by simp
 unfold IR at hI
 unfold iv dz at hF
 rw [Int.natAbs_natCast] at hI hF
 rw [hz] at hI hF
 unfold FQ2 at hF ⊢
 have hOf:=ROf_tr 1 (by decide)
 generalize mkRat ((a:Nat):Int) (d ^ n) = q at *
 refine Tr.enter env _ Tryz.func60 (by kernel_rfl) rfl Tryz.ntmps60 rfl (by repeat (first | exact has00 | refine has01 ?_)) fun w0=>?_
 repeat' first|(refine gca ?_;first|(refine ca hOf ?_;rintro o _ ⟨ho,rfl⟩))|refine al fun c=>?_|(refine wo ?_;first|refine oa ?_)|refine sq ?_|refine rg ?_|refine xc ?_|refine nl ?_|refine bk ?_
 refine TC.loop (ι:=Nat × Value) (fun g=>[(9,I g.1),(8,g.2)]) (fun g=>[own T64 g.2 (Us (dg (d ^ g.1)))]) (fun g=>g.1 ≤ n∧g.2.oneCell' = true) (fun g=>n - g.1) (0,o) [0,1,2,6] ⟨Nat.zero_le _,ho⟩ ?_
 rintro ⟨i,v⟩ ⟨hi,hv⟩
 dsimp only at hi hv ⊢
 by_cases hlt:i < n
 ·have hM:=RMul_tr v ov (dg (d ^ i)) (dg d) (Dg_dg _) (Dg_dg _) (by have:=hpl i (by omega);omega) (by omega)
  rw [nv_dg,nv_dg,← Nat.pow_succ] at hM
  clear hpl hI hF
  generalize hp:dg (d ^ i) = l1 at *
  repeat' first|(refine gca ?_;first|(refine ca hM ?_;rintro v2 _ ⟨hv2,rfl⟩))|(refine wo ?_;first|(refine ao ?_;first|refine aw ?_|refine oa ?_)|refine oa ?_)|(refine gc ?_;first|(refine ci (fun hB=>?_) (fun hB=>?_) <;> try (exfalso;omega)))|refine sq ?_|refine rg ?_|refine xc ?_|refine nl ?_|refine sk ?_|refine bk ?_|refine xb ?_
  exact lp (i + 1,v2) ⟨hlt,hv2⟩
 ·obtain rfl:i = n:=by omega
  clear hpl
  generalize dg (d ^ i) = l1 at *
  repeat' first|(refine gca ?_;first|(refine ca (hI _) ?_;rintro _ _ ⟨o2,rfl,ho2,rfl⟩)|(refine ca (hF o2 v) ?_;rintro _ _ ⟨vn,vd,rfl,hvn,hvd,rfl⟩))|refine srz ?_|(refine wo ?_;first|(refine ao ?_;first|refine oa ?_)|refine oa ?_)|(refine gc ?_;first|(refine ci (fun hB=>?_) (fun hB=>?_) <;> try (exfalso;omega)))|refine sq ?_|refine rg ?_|refine xc ?_|refine nl ?_|refine xe ?_|refine rt ?_
  exact rca (cs:=[.bool (decide (q.num < 0)),vn,vd]) (vs:=[.bool (decide (q.num < 0)),vn,vd]) (T:=TRt) ⟨vn,vd,rfl,hvn,hvd,rfl⟩
end Go.Art
namespace Go.Art
open Go Go.Proofs Go.RowKit
theorem sum_le_len {α:Type} (f:α→Nat) (B:Nat):∀ (l:List α),(∀ x ∈ l,f x ≤ B)→(l.map f).sum ≤ l.length * B
 | [],_=>by simp
 | a :: r,h=>by
  have h1:=h a (by simp)
  have h2:=sum_le_len f B r fun x hx=>h x (by simp [hx])
  rw [List.map_cons,List.sum_cons,List.length_cons,Nat.succ_mul];omega
theorem natG_le {W:List (List Int)→Bool} {L:List (List Int × Nat)} {D:Nat} (h:∀ s ∈ L,s.2 ≤ D):∀ n b m,natG W L n b m ≤ m * (L.length * D) ^ n
 | 0,b,m=>by unfold natG;split <;> simp
 | n + 1,b,m=>by
  unfold natG
  refine Nat.le_trans (sum_le_len _ (m * D * (L.length * D) ^ n) L fun s hs=>?_) ?_
  ·exact Nat.le_trans (natG_le h n _ _) (Nat.mul_le_mul_right _ (Nat.mul_le_mul_left m (h s hs)))
  ·rw [Nat.pow_succ]
   refine Nat.le_of_eq ?_
   grind
theorem take_sum_le {α:Type} (f:α→Nat) (l:List α) (i:Nat):((l.take i).map f).sum ≤ (l.map f).sum:=by
 conv=>rhs;rw [← List.take_append_drop i l]
 rw [List.map_append,List.sum_append];omega
theorem dg_natG {W:List (List Int)→Bool} {L:List (List Int × Nat)} {D:Nat} (h:∀ s ∈ L,s.2 ≤ D) (hN:L.length ≤ 4096) (hD:D < 18446744073709551616 ^ 10) (n q:Nat) (b:List (List Int)) (m:Nat) (hm:(dg m).length ≤ q):(dg (natG W L n b m)).length ≤ q + 11 * n:=by
 refine (dg_len _ _).2 (Nat.lt_of_le_of_lt (natG_le h n b m) ?_)
 have h1:L.length * D ≤ 18446744073709551616 ^ 11:=by
  rw [Nat.pow_succ,Nat.mul_comm]
  exact Nat.mul_le_mul (Nat.le_of_lt hD) (Nat.le_trans hN (by decide))
 have h2:(L.length * D) ^ n ≤ (18446744073709551616 ^ 11) ^ n:=Nat.pow_le_pow_left h1 n
 rw [← Nat.pow_mul] at h2
 rw [Nat.pow_add]
 have h3:=(dg_len _ _).1 hm
 exact Nat.lt_of_le_of_lt (Nat.mul_le_mul_left m h2) (Nat.mul_lt_mul_of_pos_right h3 (Nat.pow_pos (by decide)))
theorem has_velg_snoc {g:Int→Value} {F:List Ch} {v:Value} {l:List Int}:∀ {hs:List Value} {ls:List (List Int)},hs.length = ls.length→Has F (velg g hs ls)→Has F (vw v (l.map g))→Has F (velg g (hs ++ [v]) (ls ++ [l]))
 | [],[],_,_,h=>has_velg_cons h has_velg_nil
 | a :: hs,b :: ls,hl,k,h=>by
  have hk:Has F (velg g hs ls):=⟨fun w hw=>by
   obtain ⟨k1,k2⟩:=(k.P w hw:elgP g (a :: hs) (b :: ls) w)
   exact ⟨by simpa using k1,fun i hi=>by have:=k2 (i + 1) (by simpa using hi);simpa using this⟩,fun _ h=>h,fun _ h=>h,fun b' hb=>k.ft b' (by
    rcases hb with hb | hb | ⟨i,hi,h1,h2⟩
    ·exact hb.elim
    ·exact hb.elim
    ·exact .inr (.inr ⟨i + 1,by simpa using hi,by simpa using h1,by simpa using h2⟩))⟩
  exact has_velg_cons (has_elg k (i:=0) (by simp)) (has_velg_snoc (by simpa using hl) hk h)
 | [],b :: ls,hl,_,_=>by simp at hl
 | a :: hs,[],hl,_,_=>by simp at hl
theorem elg_ones {g:Int→Value} {F:List Ch} {ss:List Value} {ls:List (List Int)} (h:Has F (velg g ss ls)) (hl:ss.length = ls.length) (w:World) (hw:Sat F w):∀ c ∈ ss,c.oneCell' = true:=fun c hc=>by
 obtain ⟨i,hi,rfl⟩:=List.mem_iff_getElem.1 hc
 have:=elg_one h (i:=i) (by omega) w hw
 rwa [List.getD_eq_getElem?_getD,List.getElem?_eq_getElem hi] at this
abbrev wts (L:List (List Int × Nat)):List (List Int):=L.map fun s=>Zs (dg s.2)
theorem wts_get {L:List (List Int × Nat)} {i:Nat} (h:i < L.length):(wts L).getD i [] = Zs (dg (L.getD i ([],0)).2):=by simp [List.getD_eq_getElem?_getD,h]
structure MsG where
 i:Nat
 o:Value
attribute [local irreducible] Fit pt own ro vw mpc lpt vels rels mow lrc dfr
attribute [local irreducible] lmp lme mit velg relg bnd owl natG
theorem masses23_tr (all:Bool) (k:Int) (W:List (List Int)→Bool) (hW:∀ b,W b = (all || failW k b)) (sv wv:Value) (ss gs:List Value) (L:List (List Int × Nat)) (D:Nat) (hss:ss.length = L.length) (hgs:gs.length = L.length) (hN:L.length ≤ 4096) (hD:D < 18446744073709551616 ^ 10) (hwb:∀ s ∈ L,s.2 ≤ D) :
  ∀ (n:Nat) (bv mv:Value) (bs:List Value) (bl:List (List Int)) (m:Nat),bs.length = bl.length→bl.length + n ≤ 12→(dg m).length + 11 * n ≤ 200→mv.oneCell' = true →
   Tr Tryz.prog 61 [I k,bv,mv,sv,wv,I n,.bool all] [vw bv bs,velg I bs bl,vw sv ss,velg I ss (L.map (·.1)),vw wv gs,velg wU gs (wts L)] [own T64 mv (Us (dg m))] fun u D=>u.oneCell' = true∧D = [own T64 u (Us (dg (natG W L n bl m)))]
 | 0,bv,mv,bs,bl,m,hbl,hb12,hm,hmv=>by
  have hF:=rFails_tr k bv bs bl
  have hg:natG W L 0 bl m = if W bl then m else 0:=by rw [natG]
  rw [hg,hW]
  unfold failW
  generalize decide (0 < (largeR k bl).length) = fb at *
  refine Tr.enter env _ Tryz.func61 (by kernel_rfl) rfl Tryz.ntmps61 rfl (by repeat (first | exact has00 | refine has01 ?_)) fun w0=>?_
  cases all with
  | true=>
   rw [Bool.true_or,if_pos rfl]
   repeat' first|(refine gca ?_;first|(refine ca hF ?_ (hp:=has1 hasA (has1 (has_velsI (has_velg memA)) has0));rintro _ _ ⟨rfl,rfl⟩))|(refine wo ?_;first|(refine ao ?_;first|refine oa ?_)|refine oa ?_|refine gn ?_)|(refine gc ?_;first|refine ct ?_)|refine sq ?_|refine rg ?_|refine xc ?_|refine nl ?_|refine rt ?_
   exact r1 ⟨hmv,rfl⟩
  | false=>
   rw [Bool.false_or]
   cases fb with
   | true=>
    rw [if_pos rfl]
    repeat' first|(refine gca ?_;first|(refine ca hF ?_ (hp:=has1 hasA (has1 (has_velsI (has_velg memA)) has0));rintro _ _ ⟨rfl,rfl⟩))|(refine wo ?_;first|(refine ao ?_;first|refine oa ?_)|refine oa ?_|refine gy ?_)|(refine gc ?_;first|refine ct ?_)|refine sq ?_|refine rg ?_|refine xc ?_|refine nl ?_|refine rt ?_
    exact r1 ⟨hmv,rfl⟩
   | false=>
    rw [if_neg (by decide),dg_zero]
    repeat' first|(refine gca ?_;first|(refine ca hF ?_ (hp:=has1 hasA (has1 (has_velsI (has_velg memA)) has0));rintro _ _ ⟨rfl,rfl⟩))|(refine wo ?_;first|(refine ao ?_;first|refine oa ?_)|refine oa ?_|refine gy ?_)|(refine gc ?_;first|refine ct ?_|refine cf ?_)|refine sq ?_|refine rg ?_|refine xc ?_|refine nl ?_|refine sk ?_|refine rt ?_
    refine TX.im (own_nil T64 _) ?_
    exact r1 ⟨rfl,rfl⟩
 | n + 1,bv,mv,bs,bl,m,hbl,hb12,hm,hmv=>by
  have hg:natG W L (n + 1) bl m = (L.map fun s=>natG W L n (bl ++ [s.1]) (m * s.2)).sum:=by rw [natG]
  rw [hg]
  have hSn:(dg (L.map fun s=>natG W L n (bl ++ [s.1]) (m * s.2)).sum).length ≤ 200:=by
   rw [← hg]
   exact Nat.le_trans (dg_natG hwb hN hD (n + 1) _ bl m (Nat.le_refl _)) hm
  have hpS:∀ i,(dg ((L.take i).map fun s=>natG W L n (bl ++ [s.1]) (m * s.2)).sum).length ≤ 200:=fun i=>Nat.le_trans (dg_mono (take_sum_le _ L i)) hSn
  have hwl:∀ s ∈ L,(dg s.2).length ≤ 10:=fun s hs=>(dg_len _ _).2 (Nat.lt_of_le_of_lt (hwb s hs) hD)
  clear hg hSn
  have hll:(L.map fun s:List Int × Nat=>s.1).length = L.length:=List.length_map ..
  have hwll:(wts L).length = L.length:=List.length_map ..
  refine Tr.enter env _ Tryz.func61 (by kernel_rfl) rfl Tryz.ntmps61 rfl (by repeat (first | exact has00 | refine has01 ?_)) fun w0=>?_
  refine TC.fact (elg_ones (g:=I) (ss:=bs) (ls:=bl) (has_velg memA) hbl) fun hbo=>?_
  repeat' first|(refine wo ?_;first|(refine ao ?_;first|refine oa ?_)|refine oa ?_)|(refine gc ?_;first|refine cf ?_)|refine sq ?_|refine rg ?_|refine xc ?_|refine nl ?_|refine sk ?_|refine bk ?_
  refine TC.im (own_nil T64 _) ?_
  refine TC.loop (ι:=MsG) (fun g=>[(18,I g.i),(17,g.o)]) (fun g=>[own T64 g.o (Us (dg ((L.take g.i).map fun s=>natG W L n (bl ++ [s.1]) (m * s.2)).sum))]) (fun g=>g.i ≤ L.length∧g.o.oneCell' = true) (fun g=>L.length - g.i) ⟨0,nS⟩ [0,1,2,3,4,5,6] ⟨Nat.zero_le _,rfl⟩ ?_ (hf:=by dsimp only;rw [List.take_zero,List.map_nil,List.sum_nil,dg_zero];exact fitA)
  rintro ⟨i,o⟩ ⟨hi,ho⟩
  dsimp only at hi ho ⊢
  by_cases hlt:i < L.length
  ·have hmem:L.getD i ([],0) ∈ L:=by rw [List.getD_eq_getElem?_getD,List.getElem?_eq_getElem hlt];exact List.getElem_mem hlt
   have hs1:ss[i]? = some (ss.getD i nS):=by rw [List.getD_eq_getElem?_getD,List.getElem?_eq_getElem (by omega)];rfl
   have hg1:gs[i]? = some (gs.getD i nS):=by rw [List.getD_eq_getElem?_getD,List.getElem?_eq_getElem (by omega)];rfl
   have hH1:∀ F,velg I ss (L.map (·.1)) ∈ F→Has F (vw (ss.getD i nS) ((L.getD i ([],0)).1.map I)):=fun F h=>by
    have:=has_elg (g:=I) (has_velg h) (i:=i) (by rw [hll];exact hlt)
    rwa [fst_get hlt] at this
   have hH2:∀ F,velg wU gs (wts L) ∈ F→Has F (vw (gs.getD i nS) (Us (dg (L.getD i ([],0)).2))):=fun F h=>by
    have:=has_elg (g:=wU) (has_velg h) (i:=i) (by rw [hwll];exact hlt)
    rw [wts_get hlt] at this
    rw [Us_eq];exact this
   have hst:((L.take (i + 1)).map fun s=>natG W L n (bl ++ [s.1]) (m * s.2)).sum = ((L.take i).map fun s=>natG W L n (bl ++ [s.1]) (m * s.2)).sum + natG W L n (bl ++ [(L.getD i ([],0)).1]) (m * (L.getD i ([],0)).2):=by
    rw [take_succ' hlt ([],0),List.map_append,List.sum_append];simp
   have hw10:=hwl _ hmem
   have hmw:(dg (m * (L.getD i ([],0)).2)).length ≤ (dg m).length + 10:=dg_mul_len (Nat.le_refl _) hw10
   have hM:=fun g=>RMul_tr mv g (dg m) (dg (L.getD i ([],0)).2) (Dg_dg _) (Dg_dg _) (by omega) (by omega)
   rw [nv_dg,nv_dg] at hM
   have hRec:=fun b2 m2 h2=>masses23_tr all k W hW sv wv ss gs L D hss hgs hN hD hwb n b2 m2 (bs ++ [ss.getD i nS]) (bl ++ [(L.getD i ([],0)).1]) (m * (L.getD i ([],0)).2) (by simp [hbl]) (by simp;omega) (by omega) h2
   have hgl:(dg (natG W L n (bl ++ [(L.getD i ([],0)).1]) (m * (L.getD i ([],0)).2))).length ≤ 200:=Nat.le_trans (dg_natG hwb hN hD n _ _ _ (Nat.le_refl _)) (by omega)
   have hAdd:=fun x y=>RAdd_tr x y (dg ((L.take i).map fun s=>natG W L n (bl ++ [s.1]) (m * s.2)).sum) (dg (natG W L n (bl ++ [(L.getD i ([],0)).1]) (m * (L.getD i ([],0)).2))) (Dg_dg _) (Dg_dg _) (by have:=hpS i;omega) (by omega)
   rw [nv_dg,nv_dg,← hst] at hAdd
   clear hpS hwl hmem hmw hgl hw10
   have hbs12:bs.length ≤ 12:=by omega
   have hnx:((n + 1:Nat):Int) - 1 = (n:Int):=by omega
   refine TC.fact (elg_one (g:=I) (ss:=ss) (ls:=L.map (·.1)) (has_velg memA) (i:=i) (by rw [hll];exact hlt)) fun hs1o=>?_
   clear hst
   generalize natG W L n (bl ++ [(L.getD i ([],0)).1]) (m * (L.getD i ([],0)).2) = g2 at *
   generalize (L.getD i ([],0)).1 = row at *
   generalize (L.getD i ([],0)).2 = w2 at *
   generalize hp2:((L.take (i + 1)).map fun s=>natG W L n (bl ++ [s.1]) (m * s.2)).sum = p2 at *
   generalize ((L.take i).map fun s=>natG W L n (bl ++ [s.1]) (m * s.2)).sum = p1 at *
   generalize ss.getD i nS = s1 at *
   generalize gs.getD i nS = g1 at *
   repeat' first|(refine wo ?_;first|(refine ao ?_;first|refine oa ?_)|refine oa ?_|refine ln ?_)|(refine gc ?_;first|(refine ci (fun hB=>?_) (fun hB=>?_) <;> try (exfalso;omega)))|refine sq ?_|refine rg ?_|refine xc ?_|refine nl ?_|refine sk ?_|refine bk ?_
   refine cutY (ι:=Value) (fun v=>v.oneCell' = true) (fun v=>[(18,I i),(17,o),(0,I k),(1,bv),(2,mv),(3,sv),(4,wv),(5,I ((n + 1:Nat):Int)),(6,.bool all),(19,v)]) (fun v=>[own TLs v (bs ++ [s1]),own T64 o (Us (dg p1)),own T64 mv (Us (dg m)),vw bv bs,velg I bs bl,vw sv ss,velg I ss (L.map (·.1)),vw wv gs,velg wU gs (wts L)]) ?_ ?_
   ·intro nv hnv
    repeat' first|(refine gca ?_;first|(refine ca (hM g1) ?_ (hp:=has1 hasA (has1 (hH2 _ memA) has0));rintro m2 _ ⟨hm2,rfl⟩)|(refine ca (hRec nv m2 hm2) ?_ (hp:=has1 hasA (has1 (has_velg_snoc hbl (has_velg memA) (hH1 _ memA)) (has1 hasA (has1 (has_velg memA) (has1 hasA (has1 (has_velg memA) has0))))));rintro r2 _ ⟨hr2,rfl⟩)|(refine ca (hAdd o r2) ?_;rintro o4 _ ⟨ho4,rfl⟩))|(refine aw (m:=(n:Int)) ?_ (h:=by rw [← hnx];rfl))|refine le (xs:=gs) ?_ (hj:=hg1)|(refine wo ?_;first|(refine ao ?_;first|refine aw ?_)|refine oa ?_|refine ixn ?_)|refine rg ?_|refine xc ?_|refine nl ?_|refine xb ?_
    exact lp ⟨i + 1,o4⟩ ⟨hlt,ho4⟩ (hf:=by dsimp only;rw [hp2];exact fitA)
   ·intro b' kb
    refine rs (fun w=>Sl w sv ss) ?_ (fun w hw=>has_sl (xs:=ss) hw hasA)
    refine tka 1 ?_
    refine tka 3 ?_
    refine tka 4 ?_
    refine tk 5 (v:=.pointer (some (addrAt sv i))) (fun w h=>R_idx (E:=env) (i:=(i:Int)) rfl rfl rfl rfl h ⟨by omega,by omega⟩) ?_
    refine tk 6 (v:=s1) (fun w h=>R_load (E:=env) rfl rfl rfl (h.cell hs1)) ?_
    refine t2 0 7 ?_ ?_
    ·refine sl0 fun q0=>?_
     refine nl ?_
     refine te (fun w hw=>has_sl (xs:=ss) hw hasA) ?_
     refine t2 2 7 ?_ ?_
     ·refine ap (xs:=[]) (news:=bs) (fun o2=>?_) (h1:=hbo)
      refine nl ?_
      refine te (fun w hw=>has_sl (xs:=ss) hw hasA) ?_
      refine t1 7 ?_
      refine sli (vs:=[s1]) (fun q1=>?_) (h1:=one_cons hs1o one_nil)
      refine nl ?_
      refine te (fun w hw=>has_sl (xs:=ss) hw hasA) ?_
      refine t1 8 ?_
      refine ap (xs:=[] ++ bs) (news:=[s1]) (fun o3=>?_) (h1:=one_cons hs1o one_nil)
      refine TO.one (v:=o3) (xs:=([] ++ bs) ++ [s1]) fun ho3=>?_
      refine nl ?_
      refine te (fun w hw=>has_sl (xs:=ss) hw hasA) ?_
      refine tka 9 ?_
      refine t0 ?_
      repeat' first|refine xc ?_
      exact kb o3 ho3 _ _ (by (repeat (refine Sub.cons rfl (by first | rfl | go_num) ?_));exact Sub.nil) fitA
     ·refine sli (vs:=[s1]) (fun q1=>?_) (h1:=one_cons hs1o one_nil)
      refine nl ?_
      refine te (fun w hw=>has_sl (xs:=ss) hw hasA) ?_
      refine t1 2 ?_
      refine ap (xs:=[]) (news:=bs) (fun o2=>?_) (h1:=hbo)
      refine nl ?_
      refine te (fun w hw=>has_sl (xs:=ss) hw hasA) ?_
      refine t1 8 ?_
      refine ap (xs:=[] ++ bs) (news:=[s1]) (fun o3=>?_) (h1:=one_cons hs1o one_nil)
      refine TO.one (v:=o3) (xs:=([] ++ bs) ++ [s1]) fun ho3=>?_
      refine nl ?_
      refine te (fun w hw=>has_sl (xs:=ss) hw hasA) ?_
      refine tka 9 ?_
      refine t0 ?_
      repeat' first|refine xc ?_
      exact kb o3 ho3 _ _ (by (repeat (refine Sub.cons rfl (by first | rfl | go_num) ?_));exact Sub.nil) fitA
    ·refine sli (vs:=[s1]) (fun q1=>?_) (h1:=one_cons hs1o one_nil)
     refine nl ?_
     refine te (fun w hw=>has_sl (xs:=ss) hw hasA) ?_
     refine t1 0 ?_
     refine sl0 fun q0=>?_
     refine nl ?_
     refine te (fun w hw=>has_sl (xs:=ss) hw hasA) ?_
     refine t1 2 ?_
     refine ap (xs:=[]) (news:=bs) (fun o2=>?_) (h1:=hbo)
     refine nl ?_
     refine te (fun w hw=>has_sl (xs:=ss) hw hasA) ?_
     refine t1 8 ?_
     refine ap (xs:=[] ++ bs) (news:=[s1]) (fun o3=>?_) (h1:=one_cons hs1o one_nil)
     refine TO.one (v:=o3) (xs:=([] ++ bs) ++ [s1]) fun ho3=>?_
     refine nl ?_
     refine te (fun w hw=>has_sl (xs:=ss) hw hasA) ?_
     refine tka 9 ?_
     refine t0 ?_
     repeat' first|refine xc ?_
     exact kb o3 ho3 _ _ (by (repeat (refine Sub.cons rfl (by first | rfl | go_num) ?_));exact Sub.nil) fitA
  ·obtain rfl:i = L.length:=by omega
   rw [List.take_length]
   repeat' first|(refine wo ?_;first|(refine ao ?_;first|refine oa ?_)|refine oa ?_|refine ln ?_)|(refine gc ?_;first|(refine ci (fun hB=>?_) (fun hB=>?_) <;> try (exfalso;omega)))|refine sq ?_|refine rg ?_|refine xc ?_|refine nl ?_|refine xe ?_|refine rt ?_
   exact r1 ⟨ho,rfl⟩
end Go.Art
namespace Go.Art
open Go Go.Proofs Go.RowKit
theorem owl_rep {e:TypeId} {g:Int→Value} (F:List Ch):∀ n:Nat,Im F (owl e g (List.replicate n nS) (List.replicate n []) :: F)
 | 0=>owl_nil F
 | n + 1=>by
  refine (owl_rep (e:=e) (g:=g) F n).trans ?_
  rw [List.replicate_succ',List.replicate_succ']
  exact (own_nil e _).trans (owl_snoc (e:=e) (g:=g) (by simp) nS [] F)
theorem prodX_le2 {k:Nat} (hk:k ≤ 40) (d:Nat):∀ n,prodX k d n ≤ 1099511627776 ^ n
 | 0=>by simp [prodX]
 | n + 1=>by
  unfold prodX
  rw [Nat.pow_succ]
  split
  ·exact Nat.le_trans (prodX_le2 hk d n) (Nat.le_mul_of_pos_right _ (by decide))
  ·exact Nat.mul_le_mul (prodX_le2 hk d n) (Nat.le_trans (chs_bnd k (n + 1)) (Nat.le_trans (Nat.pow_le_pow_right (by decide) hk) (by decide)))
theorem dg_ten {a b n:Nat} (ha:a ≤ 268435456) (hn:n ≤ 12) (hb:b ≤ 1099511627776 ^ n):(dg (a * b)).length ≤ 10:=by
 refine (dg_len _ _).2 (Nat.lt_of_le_of_lt (Nat.mul_le_mul ha (Nat.le_trans hb (Nat.pow_le_pow_right (by decide) hn))) (by decide))
theorem getD_setL {α:Type} {l:List α} {i:Nat} (h:i < l.length) (x z:α) (j:Nat):(l.set i x).getD j z = if j = i then x else l.getD j z:=by
 rw [List.getD_eq_getElem?_getD,List.getElem?_set,List.getD_eq_getElem?_getD]
 by_cases e:i = j
 ·subst e;rw [if_pos rfl,if_pos h,if_pos rfl];rfl
 ·rw [if_neg e,if_neg (Ne.symm e)]
theorem set_ones {hs:List Value} (h:∀ c ∈ hs,c.oneCell' = true) {v:Value} (hv:v.oneCell' = true) (i:Nat):∀ c ∈ hs.set i v,c.oneCell' = true:=fun c hc=>by
 rcases List.mem_or_eq_of_mem_set hc with h1 | rfl
 ·exact h c h1
 ·exact hv
theorem owl_setF {hs:List Value} {ls:List (List Int)} {A F:List Ch} (hl:hs.length = ls.length) {i:Nat} (h:i < ls.length) (v:Value) (m:List Nat) (hf:Fit A [own T64 v (Us m),owl T64 wU hs ls] F):Im A (owl T64 wU (hs.set i v) (ls.set i (Zs m)) :: F):=by
 refine Im.trans hf ?_
 rw [Us_eq]
 exact owl_set hl h v (Zs m) F
structure CoG where
 i:Nat
 ov:Value
 hs:List Value
 ls:List (List Int)
structure CiG where
 q:Nat
 hs:List Value
 ls:List (List Int)
structure CwG where
 i:Nat
 v:Value
attribute [local irreducible] Fit pt own ro vw mpc lpt vels rels mow lrc dfr
attribute [local irreducible] lmp lme mit velg relg bnd owl natG setP szL solE risR
set_option maxHeartbeats 2000000 in
theorem counted23_tr (all:Bool) (tv:Value) (t:List Int) (k n:Int) (W:List (List Int)→Bool) (hW:∀ b,W b = (all || failW k b)) (hl:t.length ≤ 12) (hk:k ≤ 40∨65536 < k) (hn:n ≤ 12∨4096 < n) :
  Tr Tryz.prog 46 [tv,I k,I n,.bool all] [vw tv (Is t)] [] (FW (massW W t k n)):=by
 have hC:=RSoCheck_tr tv t k
 unfold massW refE
 by_cases hsz:solE t k = 0
 rotate_left
 ·rw [if_neg hsz,if_neg (by decide)]
  rw [solE_13 hsz] at hC
  refine Tr.mono (R:=fun u D=>u = tup2 rv0 (I 13)∧D = [own T64 nS (Us []),own T64 nS (Us [])]) ?_ fun u D h=>FW.of0 h
  refine Tr.enter env _ Tryz.func46 (by kernel_rfl) rfl Tryz.ntmps46 rfl (by repeat (first | exact has00 | refine has01 ?_)) fun w0=>?_
  repeat' first|(refine gca ?_;first|(refine ca hC ?_;rintro _ _ ⟨rfl,rfl⟩))|refine al fun c=>?_|refine bdz ?_|refine srz ?_|(refine wo ?_;first|(refine ao ?_;first|refine oa ?_)|refine oa ?_)|(refine gc ?_;first|refine ct ?_)|refine sq ?_|refine rg ?_|refine xc ?_|refine nl ?_|refine rt ?_
  refine TX.im (own_nil T64 _) (TX.im (own_nil T64 _) ?_)
  exact rca (cs:=[.bool false,nS,nS]) (vs:=[.bool false,nS,nS]) (T:=TRt) ⟨rfl,rfl⟩
 rw [if_pos hsz]
 rw [hsz] at hC
 by_cases hnr:n < 0∨4096 < n
 ·rw [if_pos hnr,if_neg (by decide)]
  clear hsz
  refine Tr.mono (R:=fun u D=>u = tup2 rv0 (I 3)∧D = [own T64 nS (Us []),own T64 nS (Us [])]) ?_ fun u D h=>FW.of0 h
  refine Tr.enter env _ Tryz.func46 (by kernel_rfl) rfl Tryz.ntmps46 rfl (by repeat (first | exact has00 | refine has01 ?_)) fun w0=>?_
  repeat' first|(refine gca ?_;first|(refine ca hC ?_;rintro _ _ ⟨rfl,rfl⟩))|refine al fun c=>?_|refine bdz ?_|refine srz ?_|(refine wo ?_;first|(refine ao ?_;first|refine oa ?_)|refine oa ?_|refine gy ?_|refine gn ?_|(refine gsi (fun hB=>?_) (fun hB=>?_) <;> try (exfalso;omega)))|(refine gc ?_;first|refine ct ?_|refine cf ?_|(refine ci (fun hB=>?_) (fun hB=>?_) <;> try (exfalso;omega)))|refine sq ?_|refine rg ?_|refine xc ?_|refine nl ?_|refine sk ?_|refine rt ?_
  all_goals refine TX.im (own_nil T64 _) (TX.im (own_nil T64 _) ?_)
  all_goals exact rca (cs:=[.bool false,nS,nS]) (vs:=[.bool false,nS,nS]) (T:=TRt) ⟨rfl,rfl⟩
 rw [if_neg hnr,if_pos rfl]
 obtain ⟨z1,z2,z3,z4⟩:=solE_zero hsz
 obtain ⟨kn,rfl⟩ : ∃ kn:Nat,k = kn:=⟨k.toNat,by omega⟩
 obtain ⟨nn,rfl⟩ : ∃ nn:Nat,n = nn:=⟨n.toNat,by omega⟩
 rw [Int.toNat_natCast,Int.toNat_natCast]
 have hS:=Sets23_tr tv t kn hk
 have hlen:=itemS_len t kn
 rcases setsW_cases hsz with ⟨h1,h2⟩ | h1
 rotate_left
 ·rw [h1] at hS ⊢
  rw [if_neg (by decide)]
  clear hsz h1 hlen
  refine Tr.mono (R:=fun u D=>u = tup2 rv0 (I 4)∧D = [own T64 nS (Us []),own T64 nS (Us [])]) ?_ fun u D h=>FW.of0 h
  refine Tr.enter env _ Tryz.func46 (by kernel_rfl) rfl Tryz.ntmps46 rfl (by repeat (first | exact has00 | refine has01 ?_)) fun w0=>?_
  repeat' first|(refine gca ?_;first|(refine ca hC ?_;rintro _ _ ⟨rfl,rfl⟩)|(refine ca hS ?_;rintro _ _ ⟨v,hs,rfl,hv,hhl,rfl⟩))|refine al fun c=>?_|refine bdz ?_|refine srz ?_|(refine wo ?_;first|(refine ao ?_;first|refine oa ?_)|refine oa ?_|refine gy ?_|refine gn ?_)|(refine gc ?_;first|refine ct ?_|refine cf ?_|(refine ci (fun hB=>?_) (fun hB=>?_) <;> try (exfalso;omega)))|refine sq ?_|refine rg ?_|refine xc ?_|refine nl ?_|refine sk ?_|refine rt ?_
  refine TX.im (own_nil T64 _) (TX.im (own_nil T64 _) ?_)
  exact rca (cs:=[.bool false,nS,nS]) (vs:=[.bool false,nS,nS]) (T:=TRt) ⟨rfl,rfl⟩
 rw [h1] at hS ⊢
 rw [if_pos rfl]
 have hL0:=itemS_pos hsz
 have hT:=tuples23_tr (itemS t kn).length nn ⟨hL0,by omega⟩ (by omega)
 have hfst:=itemS_fst t kn
 unfold sumW
 by_cases htup:(itemS t kn).length ^ nn ≤ 4096
 rotate_left
 ·rw [if_neg fun h=>htup h.2]
  clear hsz h1
  refine Tr.mono (R:=fun u D=>u = tup2 rv0 (I 4)∧D = [own T64 nS (Us []),own T64 nS (Us [])]) ?_ fun u D h=>FW.of0 h
  rw [hlen] at hT htup
  generalize hM:(setP t kn t.length).length ^ nn = M at *
  clear hM
  refine Tr.enter env _ Tryz.func46 (by kernel_rfl) rfl Tryz.ntmps46 rfl (by repeat (first | exact has00 | refine has01 ?_)) fun w0=>?_
  repeat' first|(refine gca ?_;first|(refine ca hC ?_;rintro _ _ ⟨rfl,rfl⟩)|(refine ca hS ?_;rintro _ _ ⟨v,hs,rfl,hv,hhl,rfl⟩;dsimp only at hhl;rw [← hhl] at hT)|(refine ca hT ?_;rintro _ _ ⟨⟨b,rfl,hb⟩,rfl⟩;obtain rfl:b = false:=by cases b;rfl;exact absurd (hb.1 rfl) htup))|refine al fun c=>?_|refine bdz ?_|refine srz ?_|(refine wo ?_;first|(refine ao ?_;first|refine oa ?_)|refine oa ?_|refine ln ?_|refine gy ?_)|(refine gc ?_;first|refine ct ?_|refine cf ?_|(refine ci (fun hB=>?_) (fun hB=>?_) <;> try (exfalso;omega)))|refine sq ?_|refine rg ?_|refine xc ?_|refine nl ?_|refine sk ?_|refine rt ?_
  refine TX.im (own_nil T64 _) (TX.im (own_nil T64 _) ?_)
  exact rca (cs:=[.bool false,nS,nS]) (vs:=[.bool false,nS,nS]) (T:=TRt) ⟨rfl,rfl⟩
 rw [if_pos ⟨by omega,htup⟩]
 have hO0:=oneS_pos hsz
 have hO1:=oneS_lt hsz (by omega) hl
 have hLb:=itemS_le hsz
 have hmem:=@itemS_mem t kn
 have hsb:=sum_wOk z3
 have hsp:=sum_posT z3 z4
 obtain ⟨T,hTT⟩ : ∃ T:Nat,t.sum = T:=⟨t.sum.toNat,by omega⟩
 have hTb:T ≤ 268435456:=by
  have:(16777215:Int) * t.length ≤ 16777215 * 12:=by omega
  omega
 have hTot:=RSoTotal_tr tv t (by omega) z3
 rw [hTT] at hTot
 have hOne:oneS t kn = T * prodC kn t.length:=by unfold oneS;rw [hTT,Int.toNat_natCast]
 have hOfT:=ROf_tr T (by omega)
 have hOf1:=ROf_tr 1 (by decide)
 have hti:∀ i,i < t.length→0 ≤ t.getD i 0∧t.getD i 0 ≤ 16777215:=fun i h=>z3 _ (by rw [List.getD_eq_getElem?_getD,List.getElem?_eq_getElem h];exact List.getElem_mem h)
 have hCh:=fun d (h:d ≤ kn)=>RChoose_tr kn d (by omega) h
 unfold eNat at hCh
 have hP1:∀ i,i ≤ 12→(dg (T * prodC kn i)).length ≤ 10:=fun i h=>dg_ten hTb h (prodC_le (by omega) i)
 have hP2:∀ (w d q:Nat),w ≤ 16777215→q ≤ 12→(dg (w * prodX kn d q)).length ≤ 10:=fun w d q hw h=>dg_ten (by omega) h (prodX_le2 (by omega) d q)
 have hP3:∀ d,(dg (chs kn d)).length ≤ 1:=fun d=>dg_len1 (Nat.lt_of_le_of_lt (Nat.le_trans (chs_bnd kn d) (Nat.pow_le_pow_right (by decide) (show kn ≤ 40 by omega))) (by decide))
 have hwS:∀ d,wS t kn d = (t.getD (d - 1) 0).toNat * prodX kn d t.length:=fun d=>rfl
 have hMass:=fun sv wv ss gs o1 a b hm=>masses23_tr all kn W hW sv wv ss gs (itemS t kn) (oneS t kn) a b (by omega) hO1 hLb nn nS o1 [] [] 1 rfl (by simp;omega) (by have:=dg_len1 (n:=1) (by decide);omega) hm
 have hnl:(dg (natG W (itemS t kn) nn [] 1)).length ≤ 262144:=Nat.le_trans (dg_natG hLb (by omega) hO1 nn 1 [] 1 (dg_len1 (by decide))) (by omega)
 have hOv:=fun mv ov=>over23_tr mv ov (natG W (itemS t kn) nn [] 1) (oneS t kn) nn (by omega) hO0 ((dg_len _ _).2 hO1) hnl
 unfold FQ2 at hOv
 unfold FW
 dsimp only
 rw [hlen] at hT htup
 clear hsz h1 hLb hO0 hO1 hnl hsb hsp z3 z4 hW
 obtain ⟨M,hM⟩ : ∃ M,M = (setP t kn t.length).length ^ nn:=⟨_,rfl⟩
 rw [← hM] at hT htup
 clear hM
 have hkl:t.length ≤ kn:=by omega
 refine Tr.enter env _ Tryz.func46 (by kernel_rfl) rfl Tryz.ntmps46 rfl (by repeat (first | exact has00 | refine has01 ?_)) fun w0=>?_
 refine TC.leni (v:=tv) (l:=t) fun htl=>?_
 repeat' first|(refine gca ?_;first|(refine ca hC ?_;rintro _ _ ⟨rfl,rfl⟩)|(refine ca hS ?_;rintro _ _ ⟨sv,ss,rfl,hsv,hsl,rfl⟩;dsimp only at hsl;rw [← hsl] at hT)|(refine ca hT ?_;rintro _ _ ⟨⟨b,rfl,hb⟩,rfl⟩;obtain rfl:b = true:=hb.2 htup)|(refine ca hTot ?_;rintro _ _ ⟨rfl,rfl⟩)|(refine ca hOfT ?_;rintro o0 _ ⟨ho0,rfl⟩))|refine al fun c=>?_|(refine gcv ?_;refine ntu (m:=(T:Int)) ?_;rw [Int.toNat_natCast])|(refine mk (m:=(t.length:Int)) (fun zv=>?_);rw [Int.toNat_natCast])|(refine wo ?_;first|(refine ao ?_;first|refine oa ?_)|refine oa ?_|refine lnm ?_|refine ln ?_|refine gy ?_)|(refine gc ?_;first|refine cf ?_|(refine ci (fun hB=>?_) (fun hB=>?_) <;> try (exfalso;omega)))|refine sq ?_|refine rg ?_|refine xc ?_|refine nl ?_|refine sk ?_|refine bk ?_
 dsimp only
 obtain ⟨sets,hsets⟩ : ∃ sets,sets = setP t kn t.length:=⟨_,rfl⟩
 rw [← hsets] at hsl hfst hlen h2 ⊢
 clear hS hT hC hTot hOfT
 refine TC.im (owl_rep (e:=T64) (g:=wU) _ t.length) ?_
 refine TC.loop (ι:=CoG) (fun g=>[(14,I ((g.i + 1:Nat):Int)),(12,g.ov)]) (fun g=>[own T64 g.ov (Us (dg (T * prodC kn g.i))),own TN zv g.hs,owl T64 wU g.hs g.ls]) (fun g=>g.i ≤ t.length∧g.ov.oneCell' = true∧g.hs.length = t.length∧g.ls.length = t.length∧(∀ c ∈ g.hs,c.oneCell' = true)∧∀ j,j < g.i→g.ls.getD j [] = Zs (dg (wS t kn (j + 1)))) (fun g=>t.length - g.i) ⟨0,o0,List.replicate t.length nS,List.replicate t.length []⟩ [0,1,2,3,8,10,13] ⟨Nat.zero_le _,ho0,by simp,by simp,fun c hc=>by rw [List.eq_of_mem_replicate hc];rfl,fun j hj=>absurd hj (Nat.not_lt_zero _)⟩ ?_ (hf:=by dsimp only;rw [show prodC kn 0 = 1 from rfl,Nat.mul_one];exact fitA)
 rintro ⟨i,ov,hs,ls⟩ ⟨hi,hov,hhl,hll,hho,hlv⟩
 dsimp only at hi hov hhl hll hho hlv ⊢
 by_cases hlt:i < t.length
 ·have hw:=hti i hlt
  have hC1:=hCh (i + 1) (by omega)
  have hM1:=fun c=>RMul_tr ov c (dg (T * prodC kn i)) (dg (chs kn (i + 1))) (Dg_dg _) (Dg_dg _) (by have:=hP1 i (by omega);omega) (by have:=hP3 (i + 1);omega)
  rw [nv_dg,nv_dg,Nat.mul_assoc,show prodC kn i * chs kn (i + 1) = prodC kn (i + 1) from rfl] at hM1
  have hix:((i + 1:Nat):Int) - 1 = (i:Int):=by omega
  have hwi:=hwS (i + 1)
  rw [Nat.add_sub_cancel] at hwi
  obtain ⟨w,hww⟩ : ∃ w:Nat,t.getD i 0 = w:=⟨(t.getD i 0).toNat,by omega⟩
  rw [hww,Int.toNat_natCast] at hwi
  have hwb:w ≤ 16777215:=by omega
  have hOw:=ROf_tr w (by omega)
  clear hMass hOv hOf1 hti hw hwS
  generalize hpC:T * prodC kn (i + 1) = pC at *
  generalize T * prodC kn i = pC0 at *
  repeat' first|(refine gca ?_;first|(refine ca hC1 ?_;rintro _ _ ⟨o1,rfl,ho1,rfl⟩)|(refine ca (hM1 o1) ?_;rintro o2 _ ⟨ho2,rfl⟩)|(refine ca hOw ?_;rintro o3 _ ⟨ho3,rfl⟩))|(refine aw (m:=(i:Int)) ?_ (h:=by rw [← hix];rfl))|refine lie hww ?_|(refine gcv ?_;refine ntu (m:=(w:Int)) ?_;rw [Int.toNat_natCast])|refine ixn (i:=i) (xs:=hs) ?_|refine so (xs:=hs) (j:=i) ?_|(refine wo ?_;first|(refine ao ?_;first|refine oa ?_)|refine oa ?_|refine lnm ?_|refine ixmn ?_)|(refine gc ?_;first|(refine ci (fun hB=>?_) (fun hB=>?_) <;> try (exfalso;omega)))|refine sq ?_|refine rg ?_|refine xc ?_|refine nl ?_|refine sk ?_|refine bk ?_
  refine TC.im (owl_setF (hs:=hs) (ls:=ls) (by omega) (i:=i) (by omega) o3 (dg w) fitA) ?_
  refine TC.loop (ι:=CiG) (fun g=>[(17,I ((g.q + 1:Nat):Int))]) (fun g=>[own TN zv g.hs,owl T64 wU g.hs g.ls]) (fun g=>g.q ≤ t.length∧g.hs.length = t.length∧g.ls.length = t.length∧(∀ c ∈ g.hs,c.oneCell' = true)∧(∀ j,j < i→g.ls.getD j [] = Zs (dg (wS t kn (j + 1))))∧g.ls.getD i [] = Zs (dg (w * prodX kn (i + 1) g.q))) (fun g=>t.length - g.q) ⟨0,hs.set i o3,ls.set i (Zs (dg w))⟩ [0,1,2,3,8,10,12,13,14] ⟨Nat.zero_le _,by simpa using hhl,by simpa using hll,set_ones hho ho3 i,fun j hj=>by rw [getD_setL (by omega),if_neg (by omega)];exact hlv j hj,by rw [getD_setL (by omega),if_pos rfl,show prodX kn (i + 1) 0 = 1 from rfl,Nat.mul_one]⟩ ?_
  clear hhl hll hho hlv
  rintro ⟨q,hs,ls⟩ ⟨hq,hhl,hll,hho,hlv,hlw⟩
  dsimp only at hq hhl hll hho hlv hlw ⊢
  by_cases hqt:q < t.length
  ·have hC2:=hCh (q + 1) (by omega)
   by_cases hqi:q = i
   ·have hpx:prodX kn (i + 1) (q + 1) = prodX kn (i + 1) q:=by rw [prodX,if_pos (by omega)]
    repeat' first|(refine gca ?_;first|(refine ca hC2 ?_;rintro _ _ ⟨o4,rfl,ho4,rfl⟩))|(refine wo ?_;first|(refine ao ?_;first|refine aw ?_|refine oa ?_)|refine oa ?_|refine lnm ?_)|(refine gc ?_;first|(refine ci (fun hB=>?_) (fun hB=>?_) <;> try (exfalso;omega))|(refine cn (fun hB=>?_) (fun hB=>?_) <;> try (exfalso;omega)))|refine sq ?_|refine rg ?_|refine xc ?_|refine nl ?_|refine sk ?_|refine bk ?_|refine xb ?_
    exact lp ⟨q + 1,hs,ls⟩ ⟨hqt,hhl,hll,hho,hlv,by dsimp only;rw [hpx];exact hlw⟩
   ·have hpx:prodX kn (i + 1) (q + 1) = prodX kn (i + 1) q * chs kn (q + 1):=by rw [prodX,if_neg (by omega)]
    have hM2:=fun a b=>RMul_tr a b (dg (w * prodX kn (i + 1) q)) (dg (chs kn (q + 1))) (Dg_dg _) (Dg_dg _) (by have:=hP2 w (i + 1) q hwb (by omega);omega) (by have:=hP3 (q + 1);omega)
    rw [nv_dg,nv_dg,Nat.mul_assoc,← hpx] at hM2
    have hg1:hs[i]? = some (hs.getD i nS):=by rw [List.getD_eq_getElem?_getD,List.getElem?_eq_getElem (by omega)];rfl
    have hH:∀ F,owl T64 wU hs ls ∈ F→Has F (vw (hs.getD i nS) (Us (dg (w * prodX kn (i + 1) q)))):=fun F h=>by
     have:=has_elg (g:=wU) (has_owl (e:=T64) (by omega) h) (i:=i) (by omega)
     rw [hlw] at this
     rw [Us_eq];exact this
    clear hpx hlw
    generalize dg (w * prodX kn (i + 1) q) = d1 at *
    generalize hd2:dg (w * prodX kn (i + 1) (q + 1)) = d2 at *
    generalize hs.getD i nS = s1 at *
    repeat' first|(refine gca ?_;first|(refine ca hC2 ?_;rintro _ _ ⟨o4,rfl,ho4,rfl⟩)|(refine ca (hM2 s1 o4) ?_ (hp:=has1 (hH _ memA) (has1 hasA has0));rintro o5 _ ⟨ho5,rfl⟩))|(refine aw (m:=(i:Int)) ?_ (h:=by rw [← hix];rfl))|refine ixn (i:=i) (xs:=hs) ?_|refine so (xs:=hs) (j:=i) ?_|refine le (xs:=hs) ?_ (hj:=hg1)|(refine wo ?_;first|(refine ao ?_;first|refine aw ?_|refine oa ?_)|refine oa ?_|refine lnm ?_)|(refine gc ?_;first|(refine ci (fun hB=>?_) (fun hB=>?_) <;> try (exfalso;omega))|(refine cn (fun hB=>?_) (fun hB=>?_) <;> try (exfalso;omega)))|refine sq ?_|refine rg ?_|refine xc ?_|refine nl ?_|refine sk ?_|refine bk ?_|refine xb ?_
    refine TX.im (owl_setF (hs:=hs) (ls:=ls) (by omega) (i:=i) (by omega) o5 d2 fitA) ?_
    exact lp ⟨q + 1,hs.set i o5,ls.set i (Zs d2)⟩ ⟨hqt,by simpa using hhl,by simpa using hll,set_ones hho ho5 i,fun j hj=>by dsimp only;rw [getD_setL (by omega),if_neg (by omega)];exact hlv j hj,by dsimp only;rw [getD_setL (by omega),if_pos rfl,hd2]⟩
  ·obtain rfl:q = t.length:=by omega
   repeat' first|(refine wo ?_;first|(refine ao ?_;first|refine aw ?_|refine oa ?_)|refine oa ?_|refine lnm ?_)|(refine gc ?_;first|(refine ci (fun hB=>?_) (fun hB=>?_) <;> try (exfalso;omega)))|refine sq ?_|refine rg ?_|refine xc ?_|refine nl ?_|refine xe ?_|refine xb ?_
   exact lp ⟨i + 1,o2,hs,ls⟩ ⟨hlt,ho2,hhl,hll,hho,fun j hj=>by
    dsimp only
    by_cases e:j = i
    ·rw [e,hlw,hwi]
    ·exact hlv j (by dsimp only at hj;omega)⟩ (hf:=by dsimp only;rw [hpC];exact fitA)
 ·obtain rfl:i = t.length:=by omega
  rw [← hOne]
  clear hCh hP1 hP2 hP3 hti
  have hsm:∀ s ∈ sets,1 ≤ s.length∧s.length ≤ t.length:=fun s h=>by
   rw [← hfst] at h
   obtain ⟨p,hp,rfl⟩:=List.mem_map.1 h
   exact (hmem hp).1
  obtain ⟨gs,hgs⟩ : ∃ gs,gs = sets.map fun s=>hs.getD (s.length - 1) nS:=⟨_,rfl⟩
  have hgl:gs.length = sets.length:=by rw [hgs];simp
  have hwt:wts (itemS t kn) = (sets.map fun s=>s.length - 1).map fun i=>ls.getD i []:=by
   rw [← hfst,List.map_map,List.map_map]
   refine List.map_congr_left fun p hp=>?_
   obtain ⟨a1,a2,_⟩:=hmem hp
   show Zs (dg p.2) = ls.getD (p.1.length - 1) []
   rw [hlv _ (by omega),a2]
   congr 3;omega
  have hW2:∀ F,owl T64 wU hs ls ∈ F→Has F (velg wU gs (wts (itemS t kn))):=fun F h=>by
   have:=has_pick (has_owl (e:=T64) (by omega) h) (sets.map fun s=>s.length - 1) (fun i hi=>by
    obtain ⟨s,hs,rfl⟩:=List.mem_map.1 hi
    have:=hsm s hs;omega)
   rw [← hwt,List.map_map] at this
   rw [hgs];exact this
  have hgone:∀ c ∈ gs,c.oneCell' = true:=fun c hc=>by
   rw [hgs] at hc
   obtain ⟨s,hs,rfl⟩:=List.mem_map.1 hc
   have:=hsm s hs
   exact hho _ (by rw [List.getD_eq_getElem?_getD,List.getElem?_eq_getElem (by omega)];exact List.getElem_mem (by omega))
  have hMs:=fun wv o1 hm=>hMass sv wv ss gs o1 (by omega) (by omega) hm
  rw [hfst] at hMs
  clear hlv hwt hMass hho
  refine TC.im (own_nil TN _) ?_
  repeat' first|(refine wo ?_;first|(refine ao ?_;first|refine oa ?_)|refine oa ?_|refine lnm ?_)|(refine gc ?_;first|(refine ci (fun hB=>?_) (fun hB=>?_) <;> try (exfalso;omega)))|refine sq ?_|refine rg ?_|refine xc ?_|refine nl ?_|refine bk ?_|refine xe ?_
  refine TC.loop (ι:=CwG) (fun g=>[(21,I g.i),(20,g.v)]) (fun g=>[own TN g.v (gs.take g.i)]) (fun g=>g.i ≤ sets.length∧g.v.oneCell' = true) (fun g=>sets.length - g.i) ⟨0,nS⟩ [1,2,3,8,10,12,13] ⟨Nat.zero_le _,rfl⟩ ?_
  clear hi hlt
  rintro ⟨i,v⟩ ⟨hi,hv⟩
  dsimp only at hi hv ⊢
  by_cases hlt:i < sets.length
  ·have hmem1:sets.getD i [] ∈ sets:=by rw [List.getD_eq_getElem?_getD,List.getElem?_eq_getElem hlt];exact List.getElem_mem hlt
   obtain ⟨d1,d2⟩:=hsm _ hmem1
   have hs1:ss[i]? = some (ss.getD i nS):=by rw [List.getD_eq_getElem?_getD,List.getElem?_eq_getElem (by omega)];rfl
   have hsl1:∀ F,owl TLI I ss sets ∈ F→Has F (vw (ss.getD i nS) (Is (sets.getD i []))):=fun F h=>has_elg (g:=I) (has_owl (e:=TLI) (by omega) h) hlt
   have hgt:gs.take (i + 1) = gs.take i ++ [hs.getD ((sets.getD i []).length - 1) nS]:=by
    rw [take_succ' (show i < gs.length by omega) nS,hgs]
    congr 2
    simp [List.getD_eq_getElem?_getD,hlt]
   have hg1o:(hs.getD ((sets.getD i []).length - 1) nS).oneCell' = true:=hgone _ (by
    rw [hgs];exact List.mem_map.2 ⟨_,hmem1,rfl⟩)
   have hgtl:(gs.take i).length ≤ 4096:=by rw [List.length_take];omega
   clear hMs hOv hW2 hgone hsm hmem1 hgs
   generalize sets.getD i [] = row at *
   obtain ⟨d,hd⟩ : ∃ d,row.length = d + 1:=⟨row.length - 1,by omega⟩
   rw [show row.length - 1 = d by omega] at hgt hg1o
   have hdx:((row.length:Nat):Int) - 1 = (d:Int):=by omega
   have hh1:hs[d]? = some (hs.getD d nS):=by rw [List.getD_eq_getElem?_getD,List.getElem?_eq_getElem (by omega)];rfl
   generalize hs.getD d nS = h1 at *
   generalize gs.take i = gt at *
   repeat' first|refine le (xs:=ss) ?_ (hj:=hs1)|refine le (xs:=hs) ?_ (hj:=hh1)|(refine lnm (l:=row) ?_ (hh:=hsl1 _ memA))|(refine aw (m:=(d:Int)) ?_ (h:=by rw [← hdx];rfl))|refine ixn (i:=d) (xs:=hs) ?_|refine sli (vs:=[h1]) (fun q2=>?_) (h1:=one_cons hg1o one_nil)|(refine ap (xs:=gt) (news:=[h1]) (fun o2=>?_) (h1:=one_cons hg1o one_nil);refine TO.one (v:=o2) (xs:=gt ++ [h1]) fun ho2=>?_)|(refine wo ?_;first|(refine ao ?_;first|refine aw ?_|refine oa ?_)|refine oa ?_|refine ln ?_|refine ixn ?_)|(refine gc ?_;first|(refine ci (fun hB=>?_) (fun hB=>?_) <;> try (exfalso;omega)))|refine sq ?_|refine rg ?_|refine xc ?_|refine nl ?_|refine sk ?_|refine bk ?_|refine xb ?_
   exact lp ⟨i + 1,o2⟩ ⟨hlt,ho2⟩ (hf:=by dsimp only;rw [hgt];exact fitA)
  ·obtain rfl:i = sets.length:=by omega
   rw [List.take_of_length_le (show gs.length ≤ sets.length by omega)]
   clear hsm hgone hgs hmem
   generalize mkRat ((natG W (itemS t kn) nn [] 1:Nat):Int) (oneS t kn ^ nn) = q at *
   generalize dg (natG W (itemS t kn) nn [] 1) = dn at *
   generalize dg (oneS t kn) = do1 at *
   repeat' first|(refine gca ?_;first|(refine ca hOf1 ?_;rintro o1 _ ⟨ho1,rfl⟩)|(refine ca (hMs v o1 ho1) ?_ (hp:=has1 hasA (has1 has_velg_nil (has1 hasA (has1 (has_owl (e:=TLI) (by omega) memA) (has1 hasA (has1 (hW2 _ memA) has0))))));rintro m2 _ ⟨hm2,rfl⟩)|(refine ca (hOv m2 ov) ?_;rintro _ _ ⟨vn,vd,rfl,hvn,hvd,rfl⟩))|refine srz ?_|(refine wo ?_;first|(refine ao ?_;first|refine oa ?_)|refine oa ?_|refine ln ?_)|(refine gc ?_;first|(refine ci (fun hB=>?_) (fun hB=>?_) <;> try (exfalso;omega)))|refine sq ?_|refine rg ?_|refine xc ?_|refine nl ?_|refine xe ?_|refine rt ?_
   exact rca (cs:=[.bool (decide (q.num < 0)),vn,vd]) (vs:=[.bool (decide (q.num < 0)),vn,vd]) (T:=TRt) ⟨vn,vd,rfl,hvn,hvd,rfl⟩
end Go.Art
namespace Go.Art
open Go
def shw (all:Int) (u:AlS) (c j:Nat):Int:=
 if (c:Int) ∈ u.B ++ u.A then (if c = j then u.rest.getD c 0 else 0) else ((if c = j then u.cut.getD c 0 else 0) + (if u.oth.getD c 0 = j then all - u.cut.getD c 0 else 0))
structure AlM (t:List Int) (all:Int) (u:AlS):Prop where
 op:∀ c:Nat,c < t.length→(c:Int) ∈ u.B ++ u.A→u.cut.getD c 0 = all∧u.oth.getD c 0 = c
 mass:∀ j:Nat,j < t.length→((List.range t.length).map fun c=>shw all u c j).sum = t.getD j 0 * t.length
open Go Go.Proofs Go.RowKit
theorem fall_le (n:Nat):∀ d,fall n d ≤ n ^ d
 | 0=>by simp [fall]
 | d + 1=>by
  rw [show fall n (d + 1) = fall n d * (n - d) from rfl,Nat.pow_succ]
  exact Nat.mul_le_mul (fall_le n d) (Nat.sub_le _ _)
theorem fall_split (n d:Nat):∀ e,fall n (d + e) = fall n d * fall (n - d) e
 | 0=>by simp [fall]
 | e + 1=>by
  rw [show d + (e + 1) = (d + e) + 1 by omega,show fall n (d + e + 1) = fall n (d + e) * (n - (d + e)) from rfl,fall_split n d e,show fall (n - d) (e + 1) = fall (n - d) e * (n - d - e) from rfl,Nat.mul_assoc,show n - (d + e) = n - d - e by omega]
def rowS (k:Nat) (l:List Int):List Int:=srt (ordF 0 (upto k) (l.drop 2))
def oneR (t:List Int) (k:Nat):Nat:=fall k k * t.length * t.sum.toNat
def wR (k:Nat) (l:List Int):Nat:=fall (k - (l.length - 2)) (k - (l.length - 2))
abbrev rowsA (t:List Int) (k:Nat):List (List Int):=allL t.sum (alF t).cut (alF t).oth k
def itemR (t:List Int) (k:Nat):List (List Int × Nat):=(rowsA t k).map fun l=>(rowS k l,wR k l)
theorem itemR_len (t:List Int) (k:Nat):(itemR t k).length = (rowsA t k).length:=by simp [itemR]
theorem alias_ok {t:List Int} {k:Nat} (hz:solE t k = 0):rwE t.sum (alF t).cut (alF t).oth k = 0∧(alF t).cut.length = t.length∧0 < t.sum:=by
 obtain ⟨z1,z2,z3,z4⟩:=solE_zero hz
 have hp:=sum_posT z3 z4
 obtain ⟨h1,h2,_⟩:=alF_ok z3 (by omega) hp
 refine ⟨?_,h2,hp⟩
 unfold rwE
 rw [if_pos h1,if_neg (by omega)]
theorem oneR_pos {t:List Int} {k:Nat} (hz:solE t k = 0):oneR t k ≠ 0:=by
 obtain ⟨_,h2,h3⟩:=alias_ok hz
 obtain ⟨z1,z2,_⟩:=solE_zero hz
 exact Nat.mul_ne_zero (Nat.mul_ne_zero (fall_pos (Nat.le_refl k)) (by omega)) (by omega)
theorem oneR_lt {t:List Int} {k:Nat} (hz:solE t k = 0) (hk:k ≤ 40) (hl:t.length ≤ 12):oneR t k < 18446744073709551616 ^ 10:=by
 obtain ⟨z1,z2,z3,z4⟩:=solE_zero hz
 have h1:=(sum_wOk z3).2
 have h2:t.sum.toNat ≤ 268435456:=by
  have:(16777215:Int) * t.length ≤ 16777215 * 12:=by omega
  omega
 have h3:=fall_le k k
 have h4:k ^ k ≤ 40 ^ 40:=Nat.le_trans (Nat.pow_le_pow_left hk k) (Nat.pow_le_pow_right (by decide) hk)
 have h5:oneR t k ≤ 40 ^ 40 * 12 * 268435456:=Nat.mul_le_mul (Nat.mul_le_mul (Nat.le_trans h3 h4) hl) h2
 exact Nat.lt_of_le_of_lt h5 (by decide)
theorem row_item {t:List Int} {k:Nat} {l:List Int} (hz:solE t k = 0) (h:l ∈ rowsA t k):setW t.sum (alF t).cut (alF t).oth k (.inr (l,false)) = ((rowS k l,0),(.inr ([],false),(l.length:Int)))∧((rowS k l).length + 2 = l.length∧1 ≤ (rowS k l).length∧(rowS k l).length ≤ t.length) ∧
  meaW t.sum (alF t).cut (alF t).oth k (rowS k l).length = (rqf (mkRat ((wR k l:Nat):Int) (oneR t k)),0)∧wR k l ≤ oneR t k∧l.length ≤ 65538:=by
 obtain ⟨hr,h2,hs⟩:=alias_ok hz
 obtain ⟨c,x,js,hc,hx,hj,rfl⟩:=allL_row h
 obtain ⟨hE,k1,k2,k3⟩:=rwE_ok hr
 have hb:=alE_bnd hE
 have hin:=alPick_in hE (c:=c) (l:=x) (by omega)
 have hjl:=endsL_mem _ _ _ _ hj
 simp only [List.length_nil,Nat.zero_add] at hjl
 have hsl:(rowS k ((c:Int) :: (x:Int) :: js)).length = js.length:=by unfold rowS;rw [(srt_perm _).length_eq,ordF_len];rfl
 have hd:js.length ≤ t.length:=by omega
 have hd1:1 ≤ js.length:=by omega
 have hw:wR k ((c:Int) :: (x:Int) :: js) = fall (k - js.length) (k - js.length):=rfl
 have hsp:fall k k = fall k js.length * fall (k - js.length) (k - js.length):=by rw [← fall_split,show js.length + (k - js.length) = k by omega]
 have hone:1 ≤ fall k js.length:=fall_one (by omega)
 refine ⟨?_,⟨?_,by omega,by omega⟩,?_,?_,?_⟩
 ·rw [setW_row hr hc hx hj]
  refine Prod.ext rfl (Prod.ext rfl ?_)
  simp only [List.length_cons]
  omega
 ·rw [hsl];simp only [List.length_cons]
 ·rw [hsl,meaW_ok (d:=(js.length:Int)) hr (by omega),Int.toNat_natCast,Int.toNat_natCast,hw]
  have hm:=mk_scale 1 (fall k js.length * (alF t).cut.length * t.sum.toNat) (fall (k - js.length) (k - js.length)) (Nat.mul_ne_zero (Nat.mul_ne_zero (by omega) (by omega)) (by omega)) (fall_pos (Nat.le_refl _))
  rw [Nat.one_mul] at hm
  rw [show (1:Int) = ((1:Nat):Int) from rfl,hm]
  congr 2
  unfold oneR
  rw [hsp,h2]
  congr 1
  grind
 ·rw [hw]
  unfold oneR
  rw [hsp]
  have h3:fall (k - js.length) (k - js.length) ≤ fall k js.length * fall (k - js.length) (k - js.length):=Nat.le_mul_of_pos_left _ (by omega)
  refine Nat.le_trans h3 ?_
  rw [Nat.mul_assoc]
  exact Nat.le_mul_of_pos_right _ (Nat.mul_pos (by omega) (by omega))
 ·simp only [List.length_cons];omega
theorem itemR_le {t:List Int} {k:Nat} (hz:solE t k = 0):∀ s ∈ itemR t k,s.2 ≤ oneR t k:=fun s h=>by
 obtain ⟨l,hl,rfl⟩:=List.mem_map.1 h
 exact (row_item hz hl).2.2.2.1
theorem itemR_pos {t:List Int} {k:Nat} (hz:solE t k = 0):0 < (itemR t k).length:=by
 obtain ⟨hr,h2,hs⟩:=alias_ok hz
 obtain ⟨hE,k1,k2,k3⟩:=rwE_ok hr
 rw [itemR_len]
 have:=allL_ge hE (k:=k) (by omega)
 have h1:0 < (alF t).cut.length * t.sum.toNat:=Nat.mul_pos (by have:=alE_bnd hE;omega) (by omega)
 unfold rowsA
 omega
def massD (W:List (List Int)→Bool) (t:List Int) (k n:Int):Fr3 × Int:=
 if refE t k n = 0 then (if (itemR t k.toNat).length ≤ 4096 then sumW W (itemR t k.toNat) (oneR t k.toNat) n.toNat else (rqn,4)) else (rqn,refE t k n)
structure DwG where
 i:Nat
 v:Value
 ss:List Value
 hs:List (Value × Value)
attribute [local irreducible] Fit pt own ro vw mpc lpt vels rels mow lrc dfr
attribute [local irreducible] lmp lme mit velg relg bnd owl setP szL solE risR chaW oneS wS
theorem MDrawn_tr (tv:Value) (t:List Int) (k n:Int) (hl:t.length ≤ 12) (hk:k ≤ 40∨65536 < k) (hn:n ≤ 12∨4096 < n):Tr Tryz.prog 26 [tv,I k,I n] [vw tv (Is t)] [] (FW (massD (failW k) t k n)):=by
 unfold massD
 have hR:=mrefuses_tr tv t k n
 by_cases hz:refE t k n = 0
 rotate_left
 ·rw [if_neg hz]
  refine Tr.mono (R:=fun u D=>u = tup2 rv0 (I (refE t k n))∧D = [own T64 nS (Us []),own T64 nS (Us [])]) ?_ fun u D h=>FW.of0 h
  generalize refE t k n = e at *
  refine Tr.enter env _ Tryz.func26 (by kernel_rfl) rfl Tryz.ntmps26 rfl (by repeat (first | exact has00 | refine has01 ?_)) fun w0=>?_
  repeat' first|(refine gca ?_;first|(refine ca hR ?_;rintro _ _ ⟨rfl,rfl⟩))|refine al fun c=>?_|refine bdz ?_|refine srz ?_|(refine wo ?_;first|(refine ao ?_;first|refine oa ?_)|refine oa ?_)|(refine gc ?_;first|(refine cn (fun hB=>?_) (fun hB=>?_) <;> try (exfalso;omega)))|refine sq ?_|refine rg ?_|refine xc ?_|refine nl ?_|refine rt ?_
  refine TX.im (own_nil T64 _) (TX.im (own_nil T64 _) ?_)
  exact rca (cs:=[.bool false,nS,nS]) (vs:=[.bool false,nS,nS]) (T:=TRt) ⟨rfl,rfl⟩
 rw [if_pos hz]
 rw [hz] at hR
 obtain ⟨hsz,hn0,hn1⟩:=refE_zero hz
 obtain ⟨z1,z2,z3,z4⟩:=solE_zero hsz
 obtain ⟨kn,rfl⟩ : ∃ kn:Nat,k = kn:=⟨k.toNat,by omega⟩
 obtain ⟨nn,rfl⟩ : ∃ nn:Nat,n = nn:=⟨n.toNat,by omega⟩
 rw [Int.toNat_natCast,Int.toNat_natCast]
 obtain ⟨g1,g2,g3⟩:=alias_ok hsz
 have hM:=fun s=>Make_tr s t (by omega) z3 g3
 have hRo:=fun c o hc ho=>Rows_tr t.sum kn c o (alF t).cut (alF t).oth hc ho
 have hlen:=itemR_len t kn
 have hit:=fun l (h:l ∈ rowsA t kn)=>row_item hsz h
 have hSet:=fun c o hc ho b r sv l=>SetW_tr t.sum kn c o (alF t).cut (alF t).oth b r sv (.inr (l,false)) (okL_row l false) hc ho
 have hMea:=fun c o hc ho (d:Nat)=>MeaW_tr t.sum kn d c o (alF t).cut (alF t).oth hc ho
 have hLp:=itemR_pos hsz
 have hLb:=itemR_le hsz
 have hO0:=oneR_pos hsz
 have hO1:=oneR_lt hsz (by omega) hl
 have hsum:=fun v hv ss hs a b (hN:(itemR t kn).length ≤ 4096)=>Sum_tr v hv ss hs (itemR t kn) (oneR t kn) nn (kn:Int) 40 (failW kn) a b hLp hLb hO0 hO1 (by omega) (fun v l hl hi=>fails_trm (kn:Int) v (l.map fun i=>ss.getD i nS) (selS (itemR t kn) l) (by unfold selS;rw [List.length_map];omega))
 clear hLp hLb hO0 hO1 z4 z3 hsz hz
 have hrw:rowsW t.sum (alF t).cut (alF t).oth kn = if 4096 < (rowsA t kn).length then ([],4) else (rowsA t kn,0):=by unfold rowsW;rw [if_pos g1,Int.toNat_natCast]
 rw [hrw] at hRo
 have hLe:itemR t kn = (rowsA t kn).map fun l=>(rowS kn l,wR kn l):=rfl
 clear hrw
 generalize oneR t kn = D1 at *
 generalize rowsA t kn = rows at *
 generalize t.sum = tot at *
 generalize (alF t).cut = cut at *
 generalize (alF t).oth = oth at *
 obtain ⟨L,hLL⟩ : ∃ L,L = itemR t kn:=⟨_,rfl⟩
 rw [← hLL] at hLe hsum hlen ⊢
 clear hLL
 by_cases hbig:4096 < rows.length
 ·rw [if_pos hbig] at hRo
  rw [if_neg (by omega)]
  refine Tr.mono (R:=fun u D=>u = tup2 rv0 (I 4)∧D = [own T64 nS (Us []),own T64 nS (Us [])]) ?_ fun u D h=>FW.of0 h
  clear hit hsum hSet hMea
  refine Tr.enter env _ Tryz.func26 (by kernel_rfl) rfl Tryz.ntmps26 rfl (by repeat (first | exact has00 | refine has01 ?_)) fun w0=>?_
  repeat' first|(refine gca ?_;first|(refine ca hR ?_;rintro _ _ ⟨rfl,rfl⟩)|(refine ca (hM _) ?_;rintro _ _ ⟨cv,ov,rfl,rfl,hcv,hov⟩)|(refine ca (hRo cv ov hcv hov) ?_;rintro _ _ ⟨rv1,hs,rfl,hrv,hlr,rfl⟩))|refine al fun c=>?_|refine bdz ?_|refine srz ?_|refine lda ?_|(refine wo ?_;first|(refine ao ?_;first|refine oa ?_)|refine oa ?_)|(refine gc ?_;first|refine ct ?_|refine cf ?_)|refine sq ?_|refine rg ?_|refine xc ?_|refine nl ?_|refine sk ?_|refine rt ?_
  refine TX.im (own_nil T64 _) (TX.im (own_nil T64 _) ?_)
  exact rca (cs:=[.bool false,nS,nS]) (vs:=[.bool false,nS,nS]) (T:=TRt) ⟨rfl,rfl⟩
 rw [if_neg hbig] at hRo
 rw [if_pos (by omega)]
 have hsum2:=fun v hv ss hs a b=>hsum v hv ss hs a b (by omega)
 clear hsum
 generalize sumW (failW kn) L D1 nn = sw at *
 obtain ⟨⟨s1,s2,s3⟩,e⟩:=sw
 unfold FW at hsum2 ⊢
 dsimp only at hsum2 ⊢
 have hll:(L.map fun s:List Int × Nat=>s.1).length = L.length:=List.length_map ..
 have hfl:(fracs L D1).length = L.length:=List.length_map ..
 have hls:L.map (·.1) = rows.map (rowS kn):=by rw [hLe,List.map_map];rfl
 have hfr:∀ i,i < rows.length→(fracs L D1).getD i 0 = mkRat ((wR kn (rows.getD i []):Nat):Int) D1:=fun i h=>by
  rw [fracs_get (by omega),hLe]
  simp [List.getD_eq_getElem?_getD,h]
 refine Tr.enter env _ Tryz.func26 (by kernel_rfl) rfl Tryz.ntmps26 rfl (by repeat (first | exact has00 | refine has01 ?_)) fun w0=>?_
 repeat' first|(refine gca ?_;first|(refine ca hR ?_;rintro _ _ ⟨rfl,rfl⟩)|(refine ca (hM _) ?_;rintro _ _ ⟨cv,ov,rfl,rfl,hcv,hov⟩)|(refine ca (hRo cv ov hcv hov) ?_;rintro _ _ ⟨rv1,ks,rfl,hrv,hlr,rfl⟩))|refine al fun c=>?_|refine bdz ?_|refine srz ?_|refine lda ?_|(refine wo ?_;first|(refine ao ?_;first|refine oa ?_)|refine oa ?_|refine ln ?_)|(refine gc ?_;first|refine cf ?_)|refine sq ?_|refine rg ?_|refine xc ?_|refine nl ?_|refine sk ?_|refine bk ?_
 rename_i c6
 dsimp only at hlr ⊢
 refine TC.im (oww_nil TIm 4 _) (TC.im (owl_nil (e:=T64) (g:=wU) _) (TC.im (owl_nil (e:=TLI) (g:=I) _) ?_))
 refine TC.loop (ι:=DwG) (fun g=>[(45,I g.i),(13,g.v)]) (fun g=>[oww TIm 4 g.v g.i (ics g.ss ((fracs L D1).take g.i) g.hs),ofr g.hs ((fracs L D1).take g.i),owl TLI I g.ss ((L.map (·.1)).take g.i)]) (fun g=>g.i ≤ L.length∧g.v.oneCell' = true∧g.hs.length = g.i∧g.ss.length = g.i) (fun g=>L.length - g.i) ⟨0,nS,[],[]⟩ [0,1,2,6,9,43,44] ⟨Nat.zero_le _,rfl,rfl,rfl⟩ ?_
 rintro ⟨i,v,ss,hs⟩ ⟨hi,hv,hl1,hl2⟩
 dsimp only at hi hv hl1 hl2 ⊢
 by_cases hlt:i < L.length
 ·have hmem:rows.getD i [] ∈ rows:=by rw [List.getD_eq_getElem?_getD,List.getElem?_eq_getElem (by omega)];exact List.getElem_mem (by omega)
  obtain ⟨p1,p2,p3,p4,p5⟩:=hit _ hmem
  have hg1:ks[i]? = some (ks.getD i nS):=by rw [List.getD_eq_getElem?_getD,List.getElem?_eq_getElem (by omega)];rfl
  have hH:∀ F,owl TLI I ks rows ∈ F→Has F (vw (ks.getD i nS) (Is (rows.getD i []))):=fun F h=>has_elg (g:=I) (hs:=ks) (ls:=rows) (has_owl (e:=TLI) hlr h) (by omega)
  have hS1:=fun b r sv=>hSet cv ov hcv hov b r sv (rows.getD i [])
  have hM1:=hMea cv ov hcv hov (rowS kn (rows.getD i [])).length
  rw [p1] at hS1
  rw [p3,← hfr i (by omega)] at hM1
  have hst:(L.map (·.1)).take (i + 1) = (L.map (·.1)).take i ++ [rowS kn (rows.getD i [])]:=by
   rw [take_succ' (show i < (L.map fun s:List Int × Nat=>s.1).length by omega) [],hls]
   congr 2
   simp [List.getD_eq_getElem?_getD,show i < rows.length by omega]
  have hqt:=take_succ' (show i < (fracs L D1).length by omega) 0
  have hqtl:((fracs L D1).take i).length = i:=by rw [List.length_take];omega
  have hltl:((L.map (·.1)).take i).length = i:=by rw [List.length_take,hll];omega
  have hra:=fun s1 vn vd=>ics_app (ss:=ss) (rs:=[s1]) (qs:=(fracs L D1).take i) (ps:=[(fracs L D1).getD i 0]) (hs:=hs) (gs:=[(vn,vd)]) (by rw [hqtl];exact hl2) (by rw [hqtl];exact hl1)
  simp only [← hqt,ics_one] at hra
  unfold FW at hM1
  dsimp only at hM1 hS1
  clear hit hSet hMea hfr hsum2 p1 p3
  generalize rowS kn (rows.getD i []) = S at *
  generalize hrow:rows.getD i [] = row at *
  generalize (fracs L D1).getD i 0 = q at *
  repeat' first|refine le (xs:=ks) ?_ (hj:=hg1)|(refine wo ?_;first|(refine ao ?_;first|refine oa ?_)|refine oa ?_|refine ixn ?_)|(refine gc ?_;first|(refine ci (fun hB=>?_) (fun hB=>?_) <;> try (exfalso;omega)))|refine sq ?_|refine rg ?_|refine xc ?_|refine nl ?_|refine sk ?_|refine bk ?_
  refine rs (fun w=>w.heap[c]? = some (.cells [I tot,cv,ov].toArray TAl (0,0))) ?_ (fun w hw=>pt_at (b:=c) (cs:=[I tot,cv,ov]) (T:=TAl) memA hw)
  refine tk 0 (v:=.agg #[I tot,cv,ov]) (fun w h=>R_loadA (E:=env) (vs:=[I tot,cv,ov]) rfl rfl rfl rfl h rfl rfl) ?_
  refine tka 1 ?_
  refine tka 2 ?_
  refine t1 3 ?_
  refine ca (LRow_tr (ks.getD i nS) row (by omega)) ?_ (hp:=has1 (hH _ memA) has0)
  rintro _ _ ⟨b,r,sv,rfl,rfl⟩
  refine nl ?_
  refine te (fun w hw=>pt_at (b:=c) (cs:=[I tot,cv,ov]) (T:=TAl) memA hw) ?_
  refine t1 4 ?_
  refine ca (hS1 b r sv) ?_
  rintro _ _ ⟨so,sv2,rfl,rfl⟩
  refine TO.one (v:=so) (xs:=Is S) fun hso=>?_
  refine nl ?_
  refine te (fun w hw=>pt_at (b:=c) (cs:=[I tot,cv,ov]) (T:=TAl) memA hw) ?_
  refine tka 5 ?_
  refine tka 6 ?_
  refine tka 7 ?_
  refine tka 8 ?_
  refine tka 9 ?_
  refine t0 ?_
  skip
  repeat' first|(refine gca ?_;first|(refine ca hM1 ?_;rintro _ _ ⟨mn,md,rfl,hmn,hmd,rfl⟩))|(refine lnm (l:=S) ?_)|refine al fun c18=>?_|refine srz ?_|refine lda ?_|refine bdm ?_|refine slws (sz:=4) (xs:=irow so q (mn,md)) (fun g2=>?_)|refine apw (sz:=4) (M:=1) (N:=i) (xs:=ics ss ((fracs L D1).take i) hs) (ys:=irow so q (mn,md)) (by decide) rfl (one_cons hso (one_cons rfl (one_cons hmn (one_cons hmd one_nil)))) (fun o2 ho2=>?_) (hu:=has_oww memA)|(refine wo ?_;first|(refine ao ?_;first|refine aw ?_)|refine oa ?_)|refine sq ?_|refine rg ?_|refine xc ?_|refine nl ?_|refine xb ?_
  refine TX.im (ofr_snoc (qs:=(fracs L D1).take i) (by rw [hqtl];exact hl1) q mn md fitA) ?_
  refine TX.im (owl_push (hs:=ss) (ls:=(L.map (·.1)).take i) (v:=so) (l:=S) (by rw [hltl];exact hl2) fitA) ?_
  rw [← hqt,← hst]
  exact lp ⟨i + 1,o2,ss ++ [so],hs ++ [(mn,md)]⟩ ⟨hlt,ho2,by simp [hl1],by simp [hl2]⟩ (hf:=by dsimp only;rw [hra];exact fitA)
 ·obtain rfl:i = L.length:=by omega
  rw [List.take_of_length_le (show (L.map fun s:List Int × Nat=>s.1).length ≤ L.length by omega),List.take_of_length_le (show (fracs L D1).length ≤ L.length by omega)]
  repeat' first|(refine gca ?_;first|(refine ca (hsum2 v hv ss hs hl2 hl1) ?_ (hp:=has1 (has_oww memA) (has1 (has_owl (e:=TLI) (by rw [hll];exact hl2) memA) (has1 (has_ofr (by rw [hfl];exact hl1) memA) has0)));rintro _ _ ⟨vn,vd,rfl,hvn,hvd,rfl⟩))|refine srz ?_|(refine wo ?_;first|(refine ao ?_;first|refine oa ?_)|refine oa ?_)|(refine gc ?_;first|(refine ci (fun hB=>?_) (fun hB=>?_) <;> try (exfalso;omega)))|refine sq ?_|refine rg ?_|refine xc ?_|refine nl ?_|refine xe ?_|refine rt ?_
  exact rca (cs:=[.bool s1,vn,vd]) (vs:=[.bool s1,vn,vd]) (T:=TRt) ⟨vn,vd,rfl,hvn,hvd,rfl⟩
end Go.Art
namespace Go.Art
open Go
structure RaI (t:List Int) (all:Int) (u:AlS) (dn:List Bool):Prop where
 ld:dn.length = t.length
 dr:∀ c:Nat,c < t.length→dn.getD c false = true→u.rest.getD c 0 < all
 B:∀ c:Nat,c < t.length→((c:Int) ∈ u.B ↔ dn.getD c false = false∧u.rest.getD c 0 < all)
 A:∀ c:Nat,c < t.length→((c:Int) ∈ u.A ↔ all < u.rest.getD c 0)
 sB:u.B.Pairwise (· ≤ ·)
 sA:u.A.Pairwise (· ≤ ·)
theorem mem_srt {x y:Int} {l:List Int}:x ∈ srt (y :: l) ↔ x = y∨x ∈ l:=by rw [(srt_perm (y :: l)).mem_iff,List.mem_cons]
theorem getB_set' (l:List Bool) (i t:Nat) (x:Bool) (h:i < l.length):(l.set i x).getD t false = if t = i then x else l.getD t false:=by
 rw [List.getD_eq_getElem?_getD,List.getElem?_set]
 by_cases e:i = t
 ·subst e;simp [h]
 ·rw [if_neg e,if_neg (fun q=>e q.symm),List.getD_eq_getElem?_getD]
theorem RaI.step {t:List Int} {all:Int} {u:AlS} {dn:List Bool} {i j:Int} {B A:List Int} (r:RaI t all u dn) (h:AlI t all u) (hB:u.B = i :: B) (hA:u.A = j :: A) :
  RaI t all (alStep all u i j B A) (dn.set i.toNat true):=by
 have hbi:=h.B i (by rw [hB];simp)
 have haj:=h.A j (by rw [hA];simp)
 have hnd:=h.nd
 rw [hB,hA] at hnd
 obtain ⟨n1,n2,n3⟩:=List.nodup_append.1 hnd
 obtain ⟨hiB,nB⟩:=List.nodup_cons.1 n1
 obtain ⟨hjA,nA⟩:=List.nodup_cons.1 n2
 have hij:i ≠ j:=n3 i (by simp) j (by simp)
 have hsB:=r.sB
 rw [hB] at hsB
 have hsA:=r.sA
 rw [hA] at hsA
 obtain ⟨⟨i0,i1⟩,i2,i3⟩:=hbi
 obtain ⟨⟨j0,j1⟩,j2,j3,j4⟩:=haj
 have hlr:=h.lr
 have hld:=r.ld
 have hr:∀ c:Nat,(alStep all u i j B A).rest.getD c 0 = if (c:Int) = j then u.rest.getD j.toNat 0 - (all - u.rest.getD i.toNat 0) else u.rest.getD c 0:=fun c=>by
  have:=getD_setI u.rest j c (u.rest.getD j.toNat 0 - (all - u.rest.getD i.toNat 0)) (by omega) (by omega)
  rw [Int.toNat_natCast] at this
  exact this
 have hd:∀ c:Nat,(dn.set i.toNat true).getD c false = if (c:Int) = i then true else dn.getD c false:=fun c=>by
  rw [getB_set' _ _ _ _ (by omega)]
  by_cases e:(c:Int) = i
  ·rw [if_pos (by omega),if_pos e]
  ·rw [if_neg (by omega),if_neg e]
 have hdj:dn.getD j.toNat false = false:=by
  cases hc:dn.getD j.toNat false with
  | false=>rfl
  | true=>have:=r.dr j.toNat (by omega) hc;omega
 refine ⟨by rw [List.length_set];exact hld,fun c hc hdc=>?_,fun c hc=>?_,fun c hc=>?_,?_,?_⟩
 ·rw [hr]
  rw [hd] at hdc
  by_cases ej:(c:Int) = j
  ·rw [if_neg (by omega)] at hdc
   have:c = j.toNat:=by omega
   rw [this,hdj] at hdc;cases hdc
  ·rw [if_neg ej]
   by_cases ei:(c:Int) = i
   ·have:c = i.toNat:=by omega
    rw [this];exact i3
   ·rw [if_neg ei] at hdc
    exact r.dr c hc hdc
 ·rw [hr,hd]
  have hBc:=r.B c hc
  rw [hB,List.mem_cons] at hBc
  show (c:Int) ∈ (if u.rest.getD j.toNat 0 - (all - u.rest.getD i.toNat 0) > all then B else if u.rest.getD j.toNat 0 - (all - u.rest.getD i.toNat 0) < all then srt (j :: B) else B) ↔ _
  generalize u.rest.getD j.toNat 0 - (all - u.rest.getD i.toNat 0) = rr
  have hjB:j ∉ B:=fun hm=>n3 j (by simp [hm]) j (by simp) rfl
  by_cases ej:(c:Int) = j
  ·have hcj:c = j.toNat:=by omega
   rw [if_pos ej,if_neg (show ¬ (c:Int) = i by omega),show dn.getD c false = false by rw [hcj];exact hdj,ej]
   by_cases g1:rr > all
   ·rw [if_pos g1];exact ⟨fun q=>absurd q hjB,fun q=>by omega⟩
   ·rw [if_neg g1]
    by_cases g2:rr < all
    ·rw [if_pos g2];exact ⟨fun _=>⟨rfl,g2⟩,fun _=>mem_srt.2 (.inl rfl)⟩
    ·rw [if_neg g2];exact ⟨fun q=>absurd q hjB,fun q=>absurd q.2 g2⟩
  ·rw [if_neg ej]
   have hm:(c:Int) ∈ (if rr > all then B else if rr < all then srt (j :: B) else B) ↔ (c:Int) ∈ B:=by
    split
    ·exact Iff.rfl
    ·split
     ·rw [mem_srt];exact ⟨fun q=>q.resolve_left ej,.inr⟩
     ·exact Iff.rfl
   rw [hm]
   by_cases ei:(c:Int) = i
   ·rw [if_pos ei,ei]
    exact ⟨fun q=>absurd q hiB,fun q=>by cases q.1⟩
   ·rw [if_neg ei,← hBc]
    exact ⟨.inr,fun q=>q.resolve_left ei⟩
 ·rw [hr]
  have hAc:=r.A c hc
  rw [hA,List.mem_cons] at hAc
  show (c:Int) ∈ (if u.rest.getD j.toNat 0 - (all - u.rest.getD i.toNat 0) > all then j :: A else A) ↔ _
  generalize u.rest.getD j.toNat 0 - (all - u.rest.getD i.toNat 0) = rr
  by_cases ej:(c:Int) = j
  ·rw [if_pos ej,ej]
   by_cases g1:rr > all
   ·rw [if_pos g1];exact ⟨fun _=>g1,fun _=>by simp⟩
   ·rw [if_neg g1];exact ⟨fun q=>absurd q hjA,fun q=>absurd q g1⟩
  ·rw [if_neg ej,← hAc]
   split
   ·rw [List.mem_cons]
   ·exact ⟨.inr,fun q=>q.resolve_left ej⟩
 ·show (if u.rest.getD j.toNat 0 - (all - u.rest.getD i.toNat 0) > all then B else if u.rest.getD j.toNat 0 - (all - u.rest.getD i.toNat 0) < all then srt (j :: B) else B).Pairwise (· ≤ ·)
  have hs:=(List.pairwise_cons.1 hsB).2
  split
  ·exact hs
  ·split
   ·exact srt_sorted _
   ·exact hs
 ·show (if u.rest.getD j.toNat 0 - (all - u.rest.getD i.toNat 0) > all then j :: A else A).Pairwise (· ≤ ·)
  split
  ·exact hsA
  ·exact (List.pairwise_cons.1 hsA).2
theorem alIn_mem {t:List Int} {all:Int}:∀ n:Nat,n ≤ t.length→(∀ c:Int,(c ∈ (alIn t all n).B ↔ (0 ≤ c∧c < n)∧t.getD c.toNat 0 * t.length < all)∧(c ∈ (alIn t all n).A ↔ (0 ≤ c∧c < n)∧all < t.getD c.toNat 0 * t.length)) ∧
  (alIn t all n).B.Pairwise (· ≤ ·)∧(alIn t all n).A.Pairwise (· ≤ ·)∧(alIn t all n).rest.length = t.length∧∀ c:Nat,c < n→(alIn t all n).rest.getD c 0 = t.getD c 0 * t.length
 | 0,_=>⟨fun c=>⟨⟨fun q=>(by simp [alIn] at q),fun q=>by omega⟩,⟨fun q=>(by simp [alIn] at q),fun q=>by omega⟩⟩,by simp [alIn],by simp [alIn],by simp [alIn],fun c h=>by omega⟩
 | n + 1,hn=>by
  obtain ⟨h1,h2,h3,h4,h5⟩:=alIn_mem (t:=t) (all:=all) n (by omega)
  have hc1:∀ c:Int,(0 ≤ c∧c < ((n + 1:Nat):Int)) ↔ c = n∨(0 ≤ c∧c < (n:Int)):=fun c=>by omega
  have hcn:(n:Int).toNat = n:=Int.toNat_natCast n
  refine ⟨fun c=>⟨?_,?_⟩,?_,?_,?_,fun c hc=>?_⟩
  ·show c ∈ (if t.getD n 0 * t.length < all then srt ((n:Int) :: (alIn t all n).B) else (alIn t all n).B) ↔ _
   rw [hc1]
   split
   ·rename_i g
    rw [mem_srt,(h1 c).1]
    constructor
    ·rintro (rfl | q)
     ·exact ⟨.inl rfl,by rw [hcn];exact g⟩
     ·exact ⟨.inr q.1,q.2⟩
    ·rintro ⟨rfl | q,g2⟩
     ·exact .inl rfl
     ·exact .inr ⟨q,g2⟩
   ·rename_i g
    rw [(h1 c).1]
    constructor
    ·intro q;exact ⟨.inr q.1,q.2⟩
    ·rintro ⟨rfl | q,g2⟩
     ·rw [hcn] at g2;exact absurd g2 g
     ·exact ⟨q,g2⟩
  ·show c ∈ (if t.getD n 0 * t.length < all then (alIn t all n).A else if t.getD n 0 * t.length > all then srt ((n:Int) :: (alIn t all n).A) else (alIn t all n).A) ↔ _
   rw [hc1]
   split
   ·rename_i g
    rw [(h1 c).2]
    constructor
    ·intro q;exact ⟨.inr q.1,q.2⟩
    ·rintro ⟨rfl | q,g2⟩
     ·rw [hcn] at g2;omega
     ·exact ⟨q,g2⟩
   ·split
    ·rename_i g
     rw [mem_srt,(h1 c).2]
     constructor
     ·rintro (rfl | q)
      ·exact ⟨.inl rfl,by rw [hcn];exact g⟩
      ·exact ⟨.inr q.1,q.2⟩
     ·rintro ⟨rfl | q,g2⟩
      ·exact .inl rfl
      ·exact .inr ⟨q,g2⟩
    ·rename_i g
     rw [(h1 c).2]
     constructor
     ·intro q;exact ⟨.inr q.1,q.2⟩
     ·rintro ⟨rfl | q,g2⟩
      ·rw [hcn] at g2;exact absurd g2 g
      ·exact ⟨q,g2⟩
  ·show (if t.getD n 0 * t.length < all then srt ((n:Int) :: (alIn t all n).B) else (alIn t all n).B).Pairwise (· ≤ ·)
   split
   ·exact srt_sorted _
   ·exact h2
  ·show (if t.getD n 0 * t.length < all then (alIn t all n).A else if t.getD n 0 * t.length > all then srt ((n:Int) :: (alIn t all n).A) else (alIn t all n).A).Pairwise (· ≤ ·)
   split
   ·exact h3
   ·split
    ·exact srt_sorted _
    ·exact h3
  ·show ((alIn t all n).rest.set n _).length = _
   rw [List.length_set];exact h4
  ·show ((alIn t all n).rest.set n (t.getD n 0 * t.length)).getD c 0 = _
   rw [getD_set _ _ _ _ (by omega)]
   by_cases e:n = c
   ·rw [if_pos e,e]
   ·rw [if_neg e];exact h5 c (by omega)
theorem RaI.start (t:List Int) (all:Int):RaI t all (alIn t all t.length) (List.replicate t.length false):=by
 obtain ⟨h1,h2,h3,h4,h5⟩:=alIn_mem (t:=t) (all:=all) t.length (Nat.le_refl _)
 have hf:∀ c:Nat,(List.replicate t.length false).getD c false = false:=fun c=>by
  rw [List.getD_eq_getElem?_getD,List.getElem?_replicate];split <;> rfl
 refine ⟨by simp,fun c _ q=>(by rw [hf] at q;cases q),fun c hc=>?_,fun c hc=>?_,h2,h3⟩
 ·rw [(h1 c).1,hf,h5 c hc,Int.toNat_natCast]
  exact ⟨fun q=>⟨rfl,q.2⟩,fun q=>⟨by omega,q.2⟩⟩
 ·rw [(h1 c).2,h5 c hc,Int.toNat_natCast]
  exact ⟨fun q=>q.2,fun q=>⟨by omega,q⟩⟩
theorem RaI.least {t:List Int} {all:Int} {u:AlS} {dn:List Bool} (r:RaI t all u dn) (h:AlI t all u) {i:Nat} (hi:i ≤ t.length) (h1:i < t.length→dn.getD i false = false∧u.rest.getD i 0 < all) (h2:∀ j:Nat,j < i→¬ (dn.getD j false = false∧u.rest.getD j 0 < all)) :
  if i < t.length then u.B.head? = some (i:Int) else u.B = []:=by
 cases hB:u.B with
 | nil=>
  split
  ·rename_i g
   have:=(r.B i g).2 (h1 g)
   rw [hB] at this;simp at this
  ·rfl
 | cons x B=>
  have hx:=h.B x (by rw [hB];simp)
  have hx2:=(r.B x.toNat (by omega)).1 (by rw [show ((x.toNat:Nat):Int) = x by omega,hB];simp)
  have hix:¬ x.toNat < i:=fun q=>h2 _ q hx2
  rw [if_pos (by omega)]
  have hm:=(r.B i (by omega)).2 (h1 (by omega))
  rw [hB] at hm
  have hs:=r.sB
  rw [hB] at hs
  rcases List.mem_cons.1 hm with e | hm
  ·rw [e];rfl
  ·have:=(List.pairwise_cons.1 hs).1 _ hm
   have e:x = i:=by omega
   rw [e];rfl
theorem RaI.most {t:List Int} {all:Int} {u:AlS} {dn:List Bool} (r:RaI t all u dn) (h:AlI t all u) {x:Int} {A:List Int} (hA:u.A = x :: A) {j:Nat} (hj:j < t.length) (h1:j < t.length - 1→all < u.rest.getD j 0) (h2:∀ c:Nat,c < j→¬ all < u.rest.getD c 0):(j:Int) = x:=by
 have hx:=h.A x (by rw [hA];simp)
 have hx2:=(r.A x.toNat (by omega)).1 (by rw [show ((x.toNat:Nat):Int) = x by omega,hA];simp)
 have hix:¬ x.toNat < j:=fun q=>h2 _ q hx2
 by_cases e:j = t.length - 1
 ·omega
 ·have hm:=(r.A j hj).2 (h1 (by omega))
  rw [hA] at hm
  have hs:=r.sA
  rw [hA] at hs
  rcases List.mem_cons.1 hm with e | hm
  ·exact e
  ·have:=(List.pairwise_cons.1 hs).1 _ hm
   omega
open Go Go.Proofs Go.RowKit
section
variable {P:Program} {E:Env P} {n:Sh} {X:Cx} {s:List K} {fr:Fr} {A A':List Ch} {ops:Array Oper} {rest:List Oper} {d:Nat} {ty t el:TypeId} {pos:String} {after:Array Edge} {v z:Value} {x y:Operand} {by_:Nat}
theorem sbo {l:List Bool} {j:Nat} {m:Bool} (k:TO E n X s ops rest fr (own el v (Bo (l.set j m)) :: A')) (hx:ev fr x = some (.pointer (some (addrAt v j))):=by rfl) (hm:Tk (own el v (Bo l)) A A':=by exact tkA) (hy:ev fr y = some (.bool m):=by rfl)
  (hj:j < l.length:=by omega) (ht:lk E.inf t = some (z,1,by_):=by rfl):TO E n X s ops (⟨none,.store t x y,ty,pos,after,none⟩ :: rest) fr A:=so k hx hm hy (by simpa using hj) (List.map_set ..) rfl ht
end
attribute [local irreducible] Fit pt own ro vw mpc lpt vels rels mow lrc dfr
attribute [local irreducible] lmp lme mit velg relg
theorem RTable_tr (s:Value) (t:List Int) (hl:t.length ≤ 65536) (hw:∀ w ∈ t,0 ≤ w∧w ≤ 16777215) (hp:t.any wPos = true):Tr Tryz.prog 98 [s] [vw s (Is t)] [] fun v D=>v = .bool true∧D = []:=by
 refine Tr.enter env _ Tryz.func98 (by kernel_rfl) rfl Tryz.ntmps98 rfl (by repeat (first | exact has00 | refine has01 ?_)) fun w0=>?_
 repeat' first|(refine wo ?_;first|refine oa ?_)|refine sq ?_|refine rg ?_|refine xc ?_|refine nl ?_|refine bk ?_
 refine TC.loop (ι:=Nat × Bool) (fun i=>[(4,I i.1),(3,.bool i.2)]) (fun _=>[]) (fun i=>i.1 ≤ t.length∧i.2 = (t.take i.1).any wPos) (fun i=>t.length - i.1) (0,false) [0] ⟨by simp,rfl⟩ ?_
 rintro ⟨i,so⟩ ⟨h1,h3⟩
 dsimp only at h1 h3 ⊢
 by_cases hi:i < t.length
 ·have hb:=take_any (p:=wPos) hi
  have hx:=hw _ (mem_getD.2 ⟨i,hi,rfl⟩)
  generalize hy:t.getD i 0 = y at *
  repeat' first|refine lie hy ?_|(refine wo ?_;first|(refine ao ?_;first|refine aw ?_|refine oa ?_)|refine oa ?_|refine lnm ?_|refine ixmn ?_|refine gy ?_|refine gn ?_|(refine gsi (fun hB=>?_) (fun hB=>?_) <;> try (exfalso;omega))|(refine gs (fun hB=>?_) (fun hB=>?_) <;> try (exfalso;omega)))|(refine gc ?_;first|(refine ci (fun hB=>?_) (fun hB=>?_) <;> try (exfalso;omega)))|refine sq ?_|refine rg ?_|refine xc ?_|refine nl ?_|refine sk ?_|refine bk ?_|refine xb ?_
  ·exact lp (i + 1,true) ⟨by dsimp only;omega,by dsimp only;rw [hb,← h3,hB];rfl⟩
  ·exact lp (i + 1,decide (0 < y)) ⟨by dsimp only;omega,by dsimp only;rw [hb,← h3,hB];rfl⟩
 ·obtain rfl:i = t.length:=by omega
  rw [List.take_length,hp] at h3
  subst h3
  repeat' first|(refine wo ?_;first|(refine ao ?_;first|refine oa ?_)|refine oa ?_|refine lnm ?_|refine gy ?_|refine gn ?_|(refine gsi (fun hB=>?_) (fun hB=>?_) <;> try (exfalso;omega)))|(refine gc ?_;first|refine cf ?_)|refine sq ?_|refine rg ?_|refine xc ?_|refine nl ?_|refine xe ?_|refine rt ?_
  exact r1 ⟨by rw [decide_eq_true (show (t.length:Int) ≤ 65536 by omega)],rfl⟩ (v:=.bool (decide ((t.length:Int) ≤ 65536)))
theorem take_sum' {t:List Int} {i:Nat} (hi:i < t.length):(t.take (i + 1)).sum = (t.take i).sum + t.getD i 0:=by rw [take_succ' hi 0,List.sum_append];simp
theorem RTotal_tr (s:Value) (t:List Int) (hl:t.length ≤ 65536) (hw:∀ w ∈ t,0 ≤ w∧w ≤ 16777215):Tr Tryz.prog 99 [s] [vw s (Is t)] [] fun v D=>v = I t.sum∧D = []:=by
 refine Tr.enter env _ Tryz.func99 (by kernel_rfl) rfl Tryz.ntmps99 rfl (by repeat (first | exact has00 | refine has01 ?_)) fun w0=>?_
 repeat' first|(refine wo ?_;first|refine oa ?_)|refine sq ?_|refine rg ?_|refine xc ?_|refine nl ?_|refine bk ?_
 refine TC.loop (ι:=Nat) (fun i=>[(4,I i),(3,I (t.take i).sum)]) (fun _=>[]) (fun i=>i ≤ t.length) (fun i=>t.length - i) 0 [0] (Nat.zero_le _) ?_
 intro i h1
 have hsb:=sum_bound (t:=t.take i) (fun w h=>hw w (List.mem_of_mem_take h))
 rw [List.length_take,Nat.min_eq_left h1] at hsb
 by_cases hi:i < t.length
 ·have hb:=take_sum' hi
  have hx:=hw _ (mem_getD.2 ⟨i,hi,rfl⟩)
  generalize hy:t.getD i 0 = y at *
  generalize (t.take i).sum = sm at *
  repeat' first|refine lie hy ?_|(refine wo ?_;first|(refine ao ?_;first|refine aw ?_|refine oa ?_)|refine oa ?_|refine lnm ?_|refine ixmn ?_)|(refine gc ?_;first|(refine ci (fun hB=>?_) (fun hB=>?_) <;> try (exfalso;omega)))|refine sq ?_|refine rg ?_|refine xc ?_|refine nl ?_|refine sk ?_|refine bk ?_|refine xb ?_
  exact lp (i + 1) hi (hs:=by rw [hb];(repeat (refine Sub.cons rfl (by first | rfl | go_num) ?_));exact Sub.nil)
 ·obtain rfl:i = t.length:=by omega
  rw [List.take_length]
  repeat' first|(refine wo ?_;first|(refine ao ?_;first|refine oa ?_)|refine oa ?_|refine lnm ?_)|(refine gc ?_;first|(refine ci (fun hB=>?_) (fun hB=>?_) <;> try (exfalso;omega)))|refine sq ?_|refine rg ?_|refine xc ?_|refine nl ?_|refine xe ?_|refine rt ?_
  exact r1 ⟨rfl,rfl⟩
theorem below_tr (rv dv:Value) (l:List Int) (dn:List Bool) (all:Int) (hl:l.length ≤ 65536) (hd:dn.length = l.length):Tr Tryz.prog 100 [rv,dv,I all] [vw rv (Is l),vw dv (Bo dn)] []
  fun v D=>(∃ i:Nat,v = I i∧i ≤ l.length∧(i < l.length→dn.getD i false = false∧l.getD i 0 < all)∧∀ j:Nat,j < i→¬ (dn.getD j false = false∧l.getD j 0 < all))∧D = []:=by
 refine Tr.enter env _ Tryz.func100 (by kernel_rfl) rfl Tryz.ntmps100 rfl (by repeat (first | exact has00 | refine has01 ?_)) fun w0=>?_
 repeat' first|(refine wo ?_;first|refine oa ?_)|refine sq ?_|refine rg ?_|refine xc ?_|refine nl ?_|refine bk ?_
 refine TC.loop (ι:=Nat) (fun i=>[(7,I i)]) (fun _=>[]) (fun i=>i ≤ l.length∧∀ j:Nat,j < i→¬ (dn.getD j false = false∧l.getD j 0 < all)) (fun i=>l.length - i) 0 [0,1,2] ⟨Nat.zero_le _,fun j h=>absurd h (Nat.not_lt_zero j)⟩ ?_
 rintro i ⟨h1,h2⟩
 by_cases hi:i < l.length
 ·have hid:i < dn.length:=by omega
  cases hb:dn.getD i false
  ·by_cases hc:l.getD i 0 < all
   ·generalize hy:l.getD i 0 = y at *
    repeat' first|refine lie hy ?_|(refine lbo (l:=dn) ?_;rw [hb])|(refine wo ?_;first|(refine ao ?_;first|refine oa ?_)|refine oa ?_|refine lnm ?_|refine ixmn ?_|refine gy ?_|(refine gsi (fun hB=>?_) (fun hB=>?_) <;> try (exfalso;omega)))|(refine gc ?_;first|(refine ci (fun hB=>?_) (fun hB=>?_) <;> try (exfalso;omega)))|refine sq ?_|refine rg ?_|refine xc ?_|refine nl ?_|refine xe ?_|refine rt ?_
    exact r1 ⟨⟨i,rfl,h1,fun _=>⟨hb,by omega⟩,h2⟩,rfl⟩
   ·have hn:∀ j:Nat,j < i + 1→¬ (dn.getD j false = false∧l.getD j 0 < all):=fun j hj=>by
     by_cases e:j = i
     ·subst e;exact fun q=>hc q.2
     ·exact h2 j (by omega)
    generalize hy:l.getD i 0 = y at *
    repeat' first|refine lie hy ?_|(refine lbo (l:=dn) ?_;rw [hb])|(refine wo ?_;first|(refine ao ?_;first|refine aw ?_|refine oa ?_)|refine oa ?_|refine lnm ?_|refine ixmn ?_|refine gy ?_|(refine gsi (fun hB=>?_) (fun hB=>?_) <;> try (exfalso;omega)))|(refine gc ?_;first|(refine ci (fun hB=>?_) (fun hB=>?_) <;> try (exfalso;omega)))|refine sq ?_|refine rg ?_|refine xc ?_|refine nl ?_|refine sk ?_|refine bk ?_|refine xb ?_
    exact lp (i + 1) ⟨hi,hn⟩
  ·have hn:∀ j:Nat,j < i + 1→¬ (dn.getD j false = false∧l.getD j 0 < all):=fun j hj=>by
    by_cases e:j = i
    ·subst e;exact fun q=>by rw [hb] at q;cases q.1
    ·exact h2 j (by omega)
   repeat' first|(refine lbo (l:=dn) ?_;rw [hb])|(refine wo ?_;first|(refine ao ?_;first|refine aw ?_|refine oa ?_)|refine oa ?_|refine lnm ?_|refine ixmn ?_|refine gy ?_|refine gn ?_|(refine gsi (fun hB=>?_) (fun hB=>?_) <;> try (exfalso;omega)))|(refine gc ?_;first|refine ct ?_)|refine sq ?_|refine rg ?_|refine xc ?_|refine nl ?_|refine sk ?_|refine bk ?_|refine xb ?_
   exact lp (i + 1) ⟨hi,hn⟩
 ·obtain rfl:i = l.length:=by omega
  repeat' first|(refine wo ?_;first|(refine ao ?_;first|refine oa ?_)|refine oa ?_|refine lnm ?_|refine gn ?_|refine gu ?_|(refine gsi (fun hB=>?_) (fun hB=>?_) <;> try (exfalso;omega)))|(refine gc ?_;first|refine cf ?_)|refine sq ?_|refine rg ?_|refine xc ?_|refine nl ?_|refine xe ?_|refine rt ?_
  exact r1 ⟨⟨l.length,rfl,Nat.le_refl _,fun q=>absurd q (Nat.lt_irrefl _),h2⟩,rfl⟩
theorem above_tr (rv:Value) (l:List Int) (all:Int) (hl:1 ≤ l.length∧l.length ≤ 65536):Tr Tryz.prog 101 [rv,I all] [vw rv (Is l)] []
  fun v D=>(∃ i:Nat,v = I i∧i < l.length∧(i < l.length - 1→all < l.getD i 0)∧∀ j:Nat,j < i→¬ all < l.getD j 0)∧D = []:=by
 refine Tr.enter env _ Tryz.func101 (by kernel_rfl) rfl Tryz.ntmps101 rfl (by repeat (first | exact has00 | refine has01 ?_)) fun w0=>?_
 repeat' first|(refine wo ?_;first|refine oa ?_)|refine sq ?_|refine rg ?_|refine xc ?_|refine nl ?_|refine bk ?_
 refine TC.loop (ι:=Nat) (fun i=>[(5,I i)]) (fun _=>[]) (fun i=>i < l.length∧∀ j:Nat,j < i→¬ all < l.getD j 0) (fun i=>l.length - i) 0 [0,1] ⟨hl.1,fun j h=>absurd h (Nat.not_lt_zero j)⟩ ?_
 rintro i ⟨h1,h2⟩
 by_cases hi:i < l.length - 1
 ·by_cases hc:all < l.getD i 0
  ·generalize hy:l.getD i 0 = y at *
   repeat' first|refine lie hy ?_|(refine wo ?_;first|(refine ao ?_;first|refine aw ?_|refine oa ?_)|refine oa ?_|refine lnm ?_|refine ixmn ?_|refine gy ?_|(refine gsi (fun hB=>?_) (fun hB=>?_) <;> try (exfalso;omega)))|(refine gc ?_;first|(refine ci (fun hB=>?_) (fun hB=>?_) <;> try (exfalso;omega)))|refine sq ?_|refine rg ?_|refine xc ?_|refine nl ?_|refine xe ?_|refine rt ?_
   exact r1 ⟨⟨i,rfl,h1,fun _=>by omega,h2⟩,rfl⟩
  ·have hn:∀ j:Nat,j < i + 1→¬ all < l.getD j 0:=fun j hj=>by
    by_cases e:j = i
    ·subst e;exact hc
    ·exact h2 j (by omega)
   generalize hy:l.getD i 0 = y at *
   repeat' first|refine lie hy ?_|(refine wo ?_;first|(refine ao ?_;first|refine aw ?_|refine oa ?_)|refine oa ?_|refine lnm ?_|refine ixmn ?_|refine gy ?_|(refine gsi (fun hB=>?_) (fun hB=>?_) <;> try (exfalso;omega)))|(refine gc ?_;first|(refine ci (fun hB=>?_) (fun hB=>?_) <;> try (exfalso;omega)))|refine sq ?_|refine rg ?_|refine xc ?_|refine nl ?_|refine sk ?_|refine bk ?_|refine xb ?_
   exact lp (i + 1) ⟨by omega,hn⟩
 ·repeat' first|(refine wo ?_;first|(refine ao ?_;first|refine aw ?_|refine oa ?_)|refine oa ?_|refine lnm ?_|refine gn ?_|(refine gsi (fun hB=>?_) (fun hB=>?_) <;> try (exfalso;omega)))|(refine gc ?_;first|refine cf ?_)|refine sq ?_|refine rg ?_|refine xc ?_|refine nl ?_|refine xe ?_|refine rt ?_
  exact r1 ⟨⟨i,rfl,h1,fun q=>absurd q hi,h2⟩,rfl⟩
structure RmG where
 u:AlS
 dn:List Bool
 i:Nat
theorem Bo_rep (n:Nat):Bo (List.replicate n false) = List.replicate n (.bool false):=List.map_replicate ..
set_option maxHeartbeats 1000000 in
theorem RMake_tr (s:Value) (t:List Int) (hl:1 ≤ t.length∧t.length ≤ 65536) (hw:∀ w ∈ t,0 ≤ w∧w ≤ 16777215) (hpos:0 < t.sum) (hp:t.any wPos = true):Tr Tryz.prog 53 [s] [vw s (Is t)] []
  fun v D=>∃ cv ov,v = tup2 (.agg #[I t.sum,cv,ov]) (I 0)∧D = [own 3 cv (Is (alF t).cut),own 3 ov (Is (alF t).oth)]∧cv.oneCell' = true∧ov.oneCell' = true:=by
 have hsb:=sum_bound hw
 refine Tr.enter env _ Tryz.func53 (by kernel_rfl) rfl Tryz.ntmps53 rfl (by repeat (first | exact has00 | refine has01 ?_)) fun w0=>?_
 repeat' first|(refine gca ?_;first|(refine ca (RTable_tr s t hl.2 hw hp) ?_;rintro _ _ ⟨rfl,rfl⟩)|(refine ca (RTotal_tr s t hl.2 hw) ?_;rintro _ _ ⟨rfl,rfl⟩))|refine al fun br=>?_|refine sq_cutX (a:=.region 4 _ _) (ι:=Value × Value) (fun i=>i.1.oneCell' = true∧i.2.oneCell' = true) (fun i=>[(0,s),(2,ptr br),(4,I t.length),(5,I t.sum),(6,i.1),(7,i.2)]) (fun i=>[vw s (Is t),pt br [I 0,nS,nS] TAl,own 3 i.1 (Is (List.replicate t.length 0)),own 4 i.2 (List.replicate t.length (.bool false))]) ?_ (fun kb=>?_)|refine rs (id:=4) (fun _=>True) ?_ (fun _ _=>trivial)|(refine wo ?_;first|refine oa ?_|refine lnm ?_)|(refine gc ?_;first|refine cf ?_)|refine sq ?_|refine rg ?_|refine xc ?_|refine nl ?_|refine sk ?_
 rotate_left
 ·refine tka 0 ?_
  refine tka 2 ?_
  refine t2 1 3 ?_ ?_
  ·refine mki fun rv=>?_
   refine TO.one (v:=rv) (xs:=Is (List.replicate (t.length:Int).toNat 0)) fun hrv=>?_
   refine nl ?_
   refine te (fun _ _=>trivial) ?_
   refine tka 4 ?_
   refine t1 3 ?_
   refine mk (fun dv=>?_)
   refine TO.one (v:=dv) (xs:=List.replicate (t.length:Int).toNat (.bool false)) fun hdv=>?_
   refine nl ?_
   refine te (fun _ _=>trivial) ?_
   refine tka 5 ?_
   refine t0 ?_
   refine xc ?_
   exact kb (rv,dv) ⟨hrv,hdv⟩ _ _ (by (repeat (refine Sub.cons rfl (by first | rfl | go_num) ?_));exact Sub.nil) fitA
  ·refine mk (fun dv=>?_)
   refine TO.one (v:=dv) (xs:=List.replicate (t.length:Int).toNat (.bool false)) fun hdv=>?_
   refine nl ?_
   refine te (fun _ _=>trivial) ?_
   refine t1 1 ?_
   refine mki fun rv=>?_
   refine TO.one (v:=rv) (xs:=Is (List.replicate (t.length:Int).toNat 0)) fun hrv=>?_
   refine nl ?_
   refine te (fun _ _=>trivial) ?_
   refine tka 4 ?_
   refine tka 5 ?_
   refine t0 ?_
   refine xc ?_
   exact kb (rv,dv) ⟨hrv,hdv⟩ _ _ (by (repeat (refine Sub.cons rfl (by first | rfl | go_num) ?_));exact Sub.nil) fitA
 rintro ⟨rv,dv⟩ ⟨hrv,hdv⟩
 dsimp only at hrv hdv ⊢
 repeat' first|refine sq_cutX (a:=.region 5 _ _) (ι:=Nat × Value × Value) (fun i=>i.2.1.oneCell' = true∧i.2.2.oneCell' = true) (fun i=>[(0,s),(2,ptr br),(4,I t.length),(5,I t.sum),(6,rv),(7,dv),(8,ptr i.1)]) (fun i=>[vw s (Is t),pt br [I 0,nS,nS] TAl,own 3 rv (Is (List.replicate t.length 0)),own 4 dv (List.replicate t.length (.bool false)),pt i.1 [I t.sum,i.2.1,i.2.2] TAl,own 3 i.2.1 (Is (List.replicate t.length 0)),own 3 i.2.2 (Is (List.replicate t.length 0))]) ?_ (fun kb=>?_)|refine rs (id:=5) (fun _=>True) ?_ (fun _ _=>trivial)|(refine wo ?_;first|(refine ao ?_;first|refine aw ?_|refine aw6 ?_|refine oa ?_|refine adiv ?_|refine amod ?_|refine shr1 ?_|refine shr ?_|refine umod ?_|refine isl ?_|refine ipe ?_|refine ipn ?_|refine ibe ?_)|refine acw ?_|refine ucv ?_|refine anw ?_|refine oa ?_|refine ld ?_|refine ldl ?_|refine lnm ?_|refine ixmn ?_|refine ixm ?_|refine li ?_|refine lb ?_|refine lv ?_|refine ln ?_|refine ixn ?_|refine ix ?_|refine le ?_|refine sr ?_|refine soi ?_|refine sob ?_|refine scm ?_|refine sclm ?_|refine schm ?_|refine gy ?_|refine gn ?_|refine gnn ?_|refine gu ?_|(refine gsi (fun hB=>?_) (fun hB=>?_) <;> try (exfalso;omega))|(refine gsn (fun hB=>?_) (fun hB=>?_) <;> try (exfalso;omega))|(refine gs (fun hB=>?_) (fun hB=>?_) <;> try (exfalso;omega)))|(refine gc ?_;first|refine ct ?_|refine cf ?_|(refine ci (fun hB=>?_) (fun hB=>?_) <;> try (exfalso;omega))|(refine cn (fun hB=>?_) (fun hB=>?_) <;> try (exfalso;omega))|(refine cb (fun hB=>?_) (fun hB=>?_) <;> try (exfalso;omega)))|refine sq ?_|refine rg ?_|refine xc ?_|refine nl ?_|refine sk ?_|refine bk ?_|refine xe ?_|refine rt ?_|refine xb ?_
 rotate_left
 ·refine tka 0 ?_
  refine tka 1 ?_
  refine tka 3 ?_
  refine t3 2 4 6 ?_ ?_ ?_
  ·refine mki fun cv=>?_
   refine TO.one (v:=cv) (xs:=Is (List.replicate (t.length:Int).toNat 0)) fun hcv=>?_
   refine nl ?_
   refine te (fun _ _=>trivial) ?_
   refine t2 4 6 ?_ ?_
   ·refine mki fun ov=>?_
    refine TO.one (v:=ov) (xs:=Is (List.replicate (t.length:Int).toNat 0)) fun hov=>?_
    refine nl ?_
    refine te (fun _ _=>trivial) ?_
    refine t2 5 6 ?_ ?_
    ·refine bdz ?_
     refine nl ?_
     refine te (fun _ _=>trivial) ?_
     refine t1 6 ?_
     refine al fun bo=>?_
     refine nl ?_
     refine te (fun _ _=>trivial) ?_
     refine t1 7 ?_
     refine srz ?_
     refine nl ?_
     refine te (fun _ _=>trivial) ?_
     refine t0 ?_
     refine xc ?_
     exact kb (bo,cv,ov) ⟨hcv,hov⟩ _ _ (by (repeat (refine Sub.cons rfl (by first | rfl | go_num) ?_));exact Sub.nil) fitA
    ·refine al fun bo=>?_
     refine nl ?_
     refine te (fun _ _=>trivial) ?_
     refine t1 5 ?_
     refine bdz ?_
     refine nl ?_
     refine te (fun _ _=>trivial) ?_
     refine t1 7 ?_
     refine srz ?_
     refine nl ?_
     refine te (fun _ _=>trivial) ?_
     refine t0 ?_
     refine xc ?_
     exact kb (bo,cv,ov) ⟨hcv,hov⟩ _ _ (by (repeat (refine Sub.cons rfl (by first | rfl | go_num) ?_));exact Sub.nil) fitA
   ·refine al fun bo=>?_
    refine nl ?_
    refine te (fun _ _=>trivial) ?_
    refine t1 4 ?_
    refine mki fun ov=>?_
    refine TO.one (v:=ov) (xs:=Is (List.replicate (t.length:Int).toNat 0)) fun hov=>?_
    refine nl ?_
    refine te (fun _ _=>trivial) ?_
    refine t1 5 ?_
    refine bdz ?_
    refine nl ?_
    refine te (fun _ _=>trivial) ?_
    refine t1 7 ?_
    refine srz ?_
    refine nl ?_
    refine te (fun _ _=>trivial) ?_
    refine t0 ?_
    refine xc ?_
    exact kb (bo,cv,ov) ⟨hcv,hov⟩ _ _ (by (repeat (refine Sub.cons rfl (by first | rfl | go_num) ?_));exact Sub.nil) fitA
  ·refine mki fun ov=>?_
   refine TO.one (v:=ov) (xs:=Is (List.replicate (t.length:Int).toNat 0)) fun hov=>?_
   refine nl ?_
   refine te (fun _ _=>trivial) ?_
   refine t2 2 6 ?_ ?_
   ·refine mki fun cv=>?_
    refine TO.one (v:=cv) (xs:=Is (List.replicate (t.length:Int).toNat 0)) fun hcv=>?_
    refine nl ?_
    refine te (fun _ _=>trivial) ?_
    refine t2 5 6 ?_ ?_
    ·refine bdz ?_
     refine nl ?_
     refine te (fun _ _=>trivial) ?_
     refine t1 6 ?_
     refine al fun bo=>?_
     refine nl ?_
     refine te (fun _ _=>trivial) ?_
     refine t1 7 ?_
     refine srz ?_
     refine nl ?_
     refine te (fun _ _=>trivial) ?_
     refine t0 ?_
     refine xc ?_
     exact kb (bo,cv,ov) ⟨hcv,hov⟩ _ _ (by (repeat (refine Sub.cons rfl (by first | rfl | go_num) ?_));exact Sub.nil) fitA
    ·refine al fun bo=>?_
     refine nl ?_
     refine te (fun _ _=>trivial) ?_
     refine t1 5 ?_
     refine bdz ?_
     refine nl ?_
     refine te (fun _ _=>trivial) ?_
     refine t1 7 ?_
     refine srz ?_
     refine nl ?_
     refine te (fun _ _=>trivial) ?_
     refine t0 ?_
     refine xc ?_
     exact kb (bo,cv,ov) ⟨hcv,hov⟩ _ _ (by (repeat (refine Sub.cons rfl (by first | rfl | go_num) ?_));exact Sub.nil) fitA
   ·refine al fun bo=>?_
    refine nl ?_
    refine te (fun _ _=>trivial) ?_
    refine t1 2 ?_
    refine mki fun cv=>?_
    refine TO.one (v:=cv) (xs:=Is (List.replicate (t.length:Int).toNat 0)) fun hcv=>?_
    refine nl ?_
    refine te (fun _ _=>trivial) ?_
    refine t1 5 ?_
    refine bdz ?_
    refine nl ?_
    refine te (fun _ _=>trivial) ?_
    refine t1 7 ?_
    refine srz ?_
    refine nl ?_
    refine te (fun _ _=>trivial) ?_
    refine t0 ?_
    refine xc ?_
    exact kb (bo,cv,ov) ⟨hcv,hov⟩ _ _ (by (repeat (refine Sub.cons rfl (by first | rfl | go_num) ?_));exact Sub.nil) fitA
  ·refine al fun bo=>?_
   refine nl ?_
   refine te (fun _ _=>trivial) ?_
   refine t2 2 4 ?_ ?_
   ·refine mki fun cv=>?_
    refine TO.one (v:=cv) (xs:=Is (List.replicate (t.length:Int).toNat 0)) fun hcv=>?_
    refine nl ?_
    refine te (fun _ _=>trivial) ?_
    refine t1 4 ?_
    refine mki fun ov=>?_
    refine TO.one (v:=ov) (xs:=Is (List.replicate (t.length:Int).toNat 0)) fun hov=>?_
    refine nl ?_
    refine te (fun _ _=>trivial) ?_
    refine t1 5 ?_
    refine bdz ?_
    refine nl ?_
    refine te (fun _ _=>trivial) ?_
    refine t1 7 ?_
    refine srz ?_
    refine nl ?_
    refine te (fun _ _=>trivial) ?_
    refine t0 ?_
    refine xc ?_
    exact kb (bo,cv,ov) ⟨hcv,hov⟩ _ _ (by (repeat (refine Sub.cons rfl (by first | rfl | go_num) ?_));exact Sub.nil) fitA
   ·refine mki fun ov=>?_
    refine TO.one (v:=ov) (xs:=Is (List.replicate (t.length:Int).toNat 0)) fun hov=>?_
    refine nl ?_
    refine te (fun _ _=>trivial) ?_
    refine t1 2 ?_
    refine mki fun cv=>?_
    refine TO.one (v:=cv) (xs:=Is (List.replicate (t.length:Int).toNat 0)) fun hcv=>?_
    refine nl ?_
    refine te (fun _ _=>trivial) ?_
    refine t1 5 ?_
    refine bdz ?_
    refine nl ?_
    refine te (fun _ _=>trivial) ?_
    refine t1 7 ?_
    refine srz ?_
    refine nl ?_
    refine te (fun _ _=>trivial) ?_
    refine t0 ?_
    refine xc ?_
    exact kb (bo,cv,ov) ⟨hcv,hov⟩ _ _ (by (repeat (refine Sub.cons rfl (by first | rfl | go_num) ?_));exact Sub.nil) fitA
 rintro ⟨bo,cv,ov⟩ ⟨hcv,hov⟩
 dsimp only at hcv hov ⊢
 repeat' first|(refine wo ?_;first|refine oa ?_)|refine sq ?_|refine rg ?_|refine xc ?_|refine nl ?_|refine bk ?_
 have hall:=AlJ.all hw hl.2 hpos
 refine TC.loop (ι:=Nat) (fun i=>[(9,I i)]) (fun i=>[own 3 rv (Is (alIn t t.sum i).rest),own 3 cv (Is (alIn t t.sum i).cut),own 3 ov (Is (alIn t t.sum i).oth)]) (fun i=>i ≤ t.length) (fun i=>t.length - i) 0 [0,2,4,5,6,7,8] (Nat.zero_le _) ?_
 intro i hi
 by_cases hlt:i < t.length
 ·have hst:alIn t t.sum (i + 1) = ⟨(alIn t t.sum i).rest.set i (t.getD i 0 * t.length),(alIn t t.sum i).cut.set i t.sum,(alIn t t.sum i).oth.set i i,(alIn t t.sum (i + 1)).B,(alIn t t.sum (i + 1)).A⟩:=rfl
  have hJ:=hall i hi
  have hx:=hw _ (mem_getD.2 ⟨i,hlt,rfl⟩)
  have hr0:0 ≤ t.getD i 0 * t.length:=Int.mul_nonneg hx.1 (by omega)
  have hr1:t.getD i 0 * t.length ≤ 16777215 * 65536:=Int.mul_le_mul hx.2 (by omega) (by omega) (by omega)
  have hu1:=hJ.lr
  have hu2:=hJ.lc
  have hu3:=hJ.lo
  clear hJ hall
  generalize (alIn t t.sum (i + 1)).B = UB at *
  generalize (alIn t t.sum (i + 1)).A = UA at *
  generalize alIn t t.sum i = U at *
  generalize hxe:t.getD i 0 = x at *
  rw [Int.mul_comm x] at hst hr0 hr1
  repeat' first|refine lie hxe ?_|refine soi (l:=U.rest) (j:=i) ?_|refine soi (l:=U.cut) (j:=i) ?_|refine soi (l:=U.oth) (j:=i) ?_|(refine wo ?_;first|(refine ao ?_;first|refine aw ?_|refine oa ?_)|refine oa ?_|refine ld ?_|refine ixmn ?_)|(refine gc ?_;first|(refine ci (fun hB=>?_) (fun hB=>?_) <;> try (exfalso;omega)))|refine sq ?_|refine rg ?_|refine xc ?_|refine nl ?_|refine sk ?_|refine bk ?_|refine xb ?_
  exact lp (i + 1) hlt (hf:=by rw [hst];exact fitA)
 obtain rfl:i = t.length:=by omega
 have hI:=(hall t.length (Nat.le_refl _)).done hpos
 have hR:=RaI.start t t.sum
 have hF:alEnd t.sum (alIn t t.sum t.length) = alF t:=rfl
 rw [← Bo_rep]
 have hrl:=hI.lr
 have hBel:=fun (l:List Int) (dn:List Bool) (h1:l.length = t.length) (h2:dn.length = t.length)=>below_tr rv dv l dn t.sum (by omega) (by omega)
 clear hall hlt hi
 generalize hU:alIn t t.sum t.length = U at *
 generalize hdn:List.replicate t.length false = dn0 at *
 have hld:=hR.ld
 repeat' first|(refine gca ?_;first|(refine ca (hBel U.rest dn0 hrl hld) ?_;rintro _ _ ⟨⟨i,rfl,b1,b2,b3⟩,rfl⟩))|(refine wo ?_;first|(refine ao ?_;first|refine oa ?_)|refine oa ?_)|(refine gc ?_;first|(refine ci (fun hB=>?_) (fun hB=>?_) <;> try (exfalso;omega)))|refine sq ?_|refine rg ?_|refine xc ?_|refine nl ?_|refine bk ?_|refine xe ?_
 refine TC.loop (ι:=RmG) (fun g=>[(10,I g.i)]) (fun g=>[own 3 rv (Is g.u.rest),own 4 dv (Bo g.dn),own 3 cv (Is g.u.cut),own 3 ov (Is g.u.oth)])
  (fun g=>AlI t t.sum g.u∧RaI t t.sum g.u g.dn∧alEnd t.sum g.u = alF t∧g.i ≤ t.length∧(if g.i < t.length then g.u.B.head? = some (g.i:Int) else g.u.B = [])) (fun g=>alMu g.u) ⟨U,dn0,i⟩ [2,4,5,6,7,8] ⟨hI,hR,hF,by dsimp only;rw [← hrl];exact b1,hR.least hI (by rw [← hrl];exact b1) (by rw [← hrl];exact b2) b3⟩ ?_
 clear hI hR hF b1 b2 b3 hrl hld hU hdn
 rintro ⟨u,dn,i⟩ ⟨hI,hR,hF,hi,hB⟩
 dsimp only at hI hR hF hi hB ⊢
 by_cases hlt:i < t.length
 ·rw [if_pos hlt] at hB
  obtain ⟨B,hB⟩ : ∃ B,u.B = (i:Int) :: B:=by
   cases hb:u.B with
   | nil=>rw [hb] at hB;cases hB
   | cons a B=>rw [hb] at hB;cases hB;exact ⟨B,rfl⟩
  obtain ⟨j0,A,hA⟩ : ∃ j A,u.A = j :: A:=by
   cases ha:u.A with
   | nil=>exact absurd ha (hI.more (by rw [hB];simp))
   | cons a A=>exact ⟨a,A,rfl⟩
  have hAb:=above_tr rv u.rest t.sum (by rw [hI.lr];exact hl)
  have hI':=hI.step ⟨hpos,by omega⟩ hB hA
  have hR':=hR.step hI hB hA
  have hE':=alEnd_step (all:=t.sum) hB hA
  have hM':=alStep_mu (all:=t.sum) hB hA
  have hru:=hI.lr
  have hcu:=hI.lc
  have hou:=hI.lo
  have hdu:=hR.ld
  have hri:=hI.B i (by rw [hB];simp)
  have hrj:=hI.A j0 (by rw [hA];simp)
  have hmost:=fun (j:Nat) (h1:j < t.length)=>hR.most hI hA (j:=j) h1
  have hnext:=fun (i':Nat) (h1:i' ≤ t.length)=>hR'.least hI' (i:=i') h1
  rw [Int.toNat_natCast] at hR' hnext hri
  repeat' first|(refine gca ?_;first|(refine ca hAb ?_;rintro _ _ ⟨⟨j,rfl,a1,a2,a3⟩,rfl⟩;rw [hru] at a1 a2;obtain rfl:=hmost j a1 a2 a3))|(refine wo ?_;first|(refine ao ?_;first|refine oa ?_)|refine oa ?_)|(refine gc ?_;first|(refine ci (fun hB=>?_) (fun hB=>?_) <;> try (exfalso;omega)))|refine sq ?_|refine rg ?_|refine xc ?_|refine nl ?_|refine sk ?_|refine bk ?_
  rw [Int.toNat_natCast] at hrj
  have hst:alStep t.sum u i j B A = ⟨u.rest.set j (u.rest.getD j 0 - (t.sum - u.rest.getD i 0)),u.cut.set i (u.rest.getD i 0),u.oth.set i j,(alStep t.sum u i j B A).B,(alStep t.sum u i j B A).A⟩:=by
   unfold alStep;simp only [Int.toNat_natCast]
  have hE2:=hE'.symm.trans hF
  clear hE' hF hmost hB hA hR hI hAb a2 a3
  generalize alStep t.sum u i j B A = u' at *
  generalize u'.B = UB at hst
  generalize u'.A = UA at hst
  generalize hri':u.rest.getD i 0 = ri at *
  generalize hrj':u.rest.getD j 0 = rj at *
  generalize hr:rj - (t.sum - ri) = r at *
  have hij:i ≠ j:=fun e=>by subst e;omega
  have e1:u'.rest = u.rest.set j r:=by rw [hst]
  have e2:u'.cut = u.cut.set i ri:=by rw [hst]
  have e3:u'.oth = u.oth.set i j:=by rw [hst]
  clear hst
  repeat' first|refine rs (id:=16) (fun w=>w.heap[bo]? = some (.cells #[I t.sum,cv,ov] TAl (0,0))∧(∃ xs,Sl w rv xs∧xs.length = t.length)∧(∃ xs,Sl w cv xs∧xs.length = t.length)) ?_ (fun w hw=>⟨pt_at memA hw,⟨_,has_sl hw hasA,by rw [Is_len];exact hru⟩,⟨_,has_sl hw hasA,by rw [Is_len];exact hcu⟩⟩)|(refine wo ?_;first|(refine ao ?_;first|refine aw ?_|refine aw6 ?_|refine oa ?_|refine adiv ?_|refine amod ?_|refine shr1 ?_|refine shr ?_|refine umod ?_|refine isl ?_|refine ipe ?_|refine ipn ?_|refine ibe ?_)|refine acw ?_|refine ucv ?_|refine anw ?_|refine oa ?_|refine ld ?_|refine ldl ?_|refine lnm ?_|refine ixmn ?_|refine ixm ?_|refine li ?_|refine lb ?_|refine lv ?_|refine ln ?_|refine ixn ?_|refine ix ?_|refine le ?_|refine sr ?_|refine soi ?_|refine sob ?_|refine scm ?_|refine sclm ?_|refine schm ?_|refine gy ?_|refine gn ?_|refine gnn ?_|refine gu ?_|(refine gsi (fun hB=>?_) (fun hB=>?_) <;> try (exfalso;omega))|(refine gsn (fun hB=>?_) (fun hB=>?_) <;> try (exfalso;omega))|(refine gs (fun hB=>?_) (fun hB=>?_) <;> try (exfalso;omega)))|(refine gc ?_;first|refine ct ?_|refine cf ?_|(refine ci (fun hB=>?_) (fun hB=>?_) <;> try (exfalso;omega))|(refine cn (fun hB=>?_) (fun hB=>?_) <;> try (exfalso;omega))|(refine cb (fun hB=>?_) (fun hB=>?_) <;> try (exfalso;omega)))|refine sq ?_|refine rg ?_|refine xc ?_|refine nl ?_|refine sk ?_|refine bk ?_|refine xe ?_|refine rt ?_|refine xb ?_
  refine tka 0 ?_
  refine tkl 1 (cs:=[I t.sum,cv,ov]) (fun w h=>h.1) ?_
  refine tka 2 ?_
  refine tka 3 ?_
  refine tka 4 ?_
  refine tkx 5 (len:=t.length) (fun w h=>h.2.1) ?_
  refine t1 6 ?_
  refine lie hri' ?_
  refine nl ?_
  refine te (fun w hw=>⟨pt_at memA hw,⟨_,has_sl hw hasA,by rw [Is_len];exact hru⟩,⟨_,has_sl hw hasA,by rw [Is_len];exact hcu⟩⟩) ?_
  refine tkx 7 (len:=t.length) (fun w h=>h.2.2) ?_
  refine t1 8 ?_
  refine soi (l:=u.cut) (j:=i) ?_
  refine nl ?_
  refine te (fun w hw=>⟨pt_at memA hw,⟨_,has_sl hw hasA,by rw [Is_len];exact hru⟩,⟨_,has_sl hw hasA,by rw [Is_len,List.length_set];exact hcu⟩⟩) ?_
  refine t0 ?_
  repeat' first|refine soi (l:=u.oth) (j:=i) ?_|refine rs (id:=18) (fun w=>∃ xs,Sl w rv xs∧xs.length = t.length) ?_ (fun w hw=>⟨_,has_sl hw hasA,by rw [Is_len];exact hru⟩)|(refine wo ?_;first|refine oa ?_|refine ld ?_|refine ixmn ?_)|refine sq ?_|refine rg ?_|refine xc ?_|refine nl ?_
  refine tka 0 ?_
  refine tka 1 ?_
  refine tka 2 ?_
  refine tka 3 ?_
  refine tkx 4 (len:=t.length) (fun w h=>h) ?_
  refine tka 6 ?_
  refine tka 7 ?_
  refine tka 8 ?_
  refine tkx 9 (len:=t.length) (fun w h=>h) ?_
  have hq:(u.rest.set j r).length = t.length:=by rw [List.length_set];exact hru
  have hdq:(dn.set i true).length = t.length:=by rw [List.length_set];exact hdu
  refine t2 5 10 ?_ ?_
  ·refine lie hrj' ?_
   refine nl ?_
   refine te (fun w hw=>⟨_,has_sl hw hasA,by rw [Is_len];exact hru⟩) ?_
   refine t1 10 ?_
   refine lie hri' ?_
   refine nl ?_
   refine te (fun w hw=>⟨_,has_sl hw hasA,by rw [Is_len];exact hru⟩) ?_
   refine tkw 11 (t.sum - ri) ?_
   refine tkw 12 r ?_
   refine tkx 13 (len:=t.length) (fun w h=>h) ?_
   refine t1 14 ?_
   refine soi (l:=u.rest) (j:=j) ?_
   refine nl ?_
   refine te (fun w hw=>⟨_,has_sl hw hasA,by rw [Is_len];exact hq⟩) ?_
   refine t0 ?_
   repeat' first|(refine gca ?_;first|(refine ca (hBel (u.rest.set j r) (dn.set i true) hq hdq) ?_;rintro _ _ ⟨⟨i',rfl,b1,b2,b3⟩,rfl⟩))|refine sbo (l:=dn) (j:=i) ?_|(refine wo ?_;first|refine oa ?_|refine ixmn ?_)|refine rg ?_|refine xc ?_|refine nl ?_|refine xb ?_
   rw [← e1] at b1 b2 b3
   exact lp ⟨u',dn.set i true,i'⟩ ⟨hI',hR',hE2,by dsimp only;rw [← hI'.lr];exact b1,hnext i' (by rw [← hI'.lr];exact b1) (by rw [← hI'.lr];exact b2) b3⟩ (hf:=by dsimp only;rw [e1,e2,e3];exact fitA) (hlt:=hM')
  ·refine lie hri' ?_
   refine nl ?_
   refine te (fun w hw=>⟨_,has_sl hw hasA,by rw [Is_len];exact hru⟩) ?_
   refine tkw 11 (t.sum - ri) ?_
   refine t1 5 ?_
   refine lie hrj' ?_
   refine nl ?_
   refine te (fun w hw=>⟨_,has_sl hw hasA,by rw [Is_len];exact hru⟩) ?_
   refine tkw 12 r ?_
   refine tkx 13 (len:=t.length) (fun w h=>h) ?_
   refine t1 14 ?_
   refine soi (l:=u.rest) (j:=j) ?_
   refine nl ?_
   refine te (fun w hw=>⟨_,has_sl hw hasA,by rw [Is_len];exact hq⟩) ?_
   refine t0 ?_
   repeat' first|(refine gca ?_;first|(refine ca (hBel (u.rest.set j r) (dn.set i true) hq hdq) ?_;rintro _ _ ⟨⟨i',rfl,b1,b2,b3⟩,rfl⟩))|refine sbo (l:=dn) (j:=i) ?_|(refine wo ?_;first|refine oa ?_|refine ixmn ?_)|refine rg ?_|refine xc ?_|refine nl ?_|refine xb ?_
   rw [← e1] at b1 b2 b3
   exact lp ⟨u',dn.set i true,i'⟩ ⟨hI',hR',hE2,by dsimp only;rw [← hI'.lr];exact b1,hnext i' (by rw [← hI'.lr];exact b1) (by rw [← hI'.lr];exact b2) b3⟩ (hf:=by dsimp only;rw [e1,e2,e3];exact fitA) (hlt:=hM')
 ·rw [if_neg hlt] at hB
  rw [alEnd_stop hB] at hF
  rw [← hF]
  repeat' first|refine lda ?_|refine srz ?_|(refine wo ?_;first|(refine ao ?_;first|refine oa ?_)|refine oa ?_)|(refine gc ?_;first|(refine ci (fun hB=>?_) (fun hB=>?_) <;> try (exfalso;omega)))|refine sq ?_|refine rg ?_|refine xc ?_|refine nl ?_|refine xe ?_|refine rt ?_
  exact rca ⟨cv,ov,rfl,rfl,hcv,hov⟩
end Go.Art
