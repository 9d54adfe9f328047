/- Texts put together: StopK StopN Ve Vf Mb Md Za Zb Zc Zd Ze Zf Zh Va Gc Rq Vb Vc Vg Vm As. Conditions: none. -/
import Derived.Test.YtpabbhpgikdhfaaGreatWJf
set_option linter.unusedSimpArgs false
set_option linter.unusedVariables false
set_option maxRecDepth 4000
namespace Go.Art
open Go Go.Proofs Go.RowKit
attribute [local irreducible] Fit pt own ro vw mpc lpt vels rels mow lrc dfr
section
variable {P:Program} {E:Env P} {n:Sh} {X:Cx} {s:List K} {fr:Fr} {A A' B F:List Ch} {ops:Array Oper} {rest:List Oper} {d:Nat} {ty:TypeId} {pos:String} {after:Array Edge} {v:Value} {t t':TypeId} {x y:Operand} {c0:Code}
end
end Go.Art
set_option maxRecDepth 4000
namespace Go.Art
open Go Go.Proofs Go.RowKit
attribute [local irreducible] Fit pt own ro vw mpc lpt vels rels mow lrc dfr
attribute [local irreducible] lmp lme mit
def KeysOf (f:Int→Option Value) (zs:List Int):Prop:=zs.Nodup∧∀ k,k ∈ zs ↔ (f k).isSome = true
theorem Keys1_seq (c b:Nat) (f:Int→Option Value) (N:Nat) (hN:∀ zs:List Int,zs.Nodup→(∀ k ∈ zs,(f k).isSome = true)→zs.length ≤ N) :
  SeqC Tryz.prog 193 #[ptr c] [lpt c [mp b] 160,lmp b f] N (KeysOf f):=by
 refine ⟨?_,fun zs h=>hN zs h.1 fun k hk=>(h.2 k).1 hk,by (repeat (first | exact has00 | refine has01 ?_));first | done | fail⟩
 intro α l J el a0 h0 hnb hy
 refine Tr.enter env _ Tryz.func193 (by kernel_rfl) rfl Tryz.ntmps193 rfl (by repeat (first | exact has00 | refine has01 ?_)) fun w0=>?_
 refine TC.entries (b:=b) (f:=f) (fun es clock hT=>?_)
 have hold:∀ x ∈ es.toList,x.born < clock:=hT.st.1
 have hnd:(es.toList.map (·.born)).Nodup:=hT.st.2.1
 repeat' first|refine rgm (b:=b) (es:=es) (clock:=clock) fun r=>?_|(refine wo ?_;first|refine ldl ?_)|refine sq ?_|refine rg ?_|refine xc ?_|refine nl ?_|refine bk ?_
 refine TC.loop (ι:=α × Array Nat) (fun _=>[]) (fun a=>mit r b clock a.2 clock :: lme b es clock :: lpt c [mp b] 160 :: J a.1) (fun a=>(el a.1).Nodup∧∀ k,k ∈ el a.1 ↔ ∃ e ∈ es.toList,e.key = I k∧a.2.contains e.born = true) (fun a=>(leftOf es a.2).size) (a0,#[]) [0,5] ⟨by rw [h0];exact .nil,by rw [h0];simp⟩ ?_ (hf:=Fit.all)
 rintro ⟨a,seen⟩ ⟨h1,h2⟩
 dsimp only at h1 h2 ⊢
 have hkey:∀ e ∈ es.toList,∃ k,e.key = I k:=fun e he=>by
  have:=hT.ks e he
  unfold MapKept.IsKey at this
  split at this
  all_goals (first | (rename_i e1 e2;cases e1;subst this;exact ⟨_,e2⟩) | exact this.elim | (rename_i e1 _;cases e1))
 have hF:∀ seen,Fit (mit r b clock seen clock :: (lme b es clock :: lpt c [mp b] 160 :: J a)) (J a) [mit r b clock seen clock,lme b es clock,lpt c [mp b] 160]:=fun seen=>Fit.app [mit r b clock seen clock,lme b es clock,lpt c [mp b] 160] (J a)
 have hN0:(lme b es clock :: lpt c [mp b] 160 :: J a) ++ [] = lme b es clock :: lpt c [mp b] 160 :: J a:=List.append_nil _
 repeat' first|refine nxt (b:=b) (es:=es) (clock:=clock) (fun hz=>?_) (fun e he=>?_) hold (Nat.le_refl _)|(refine wo ?_;first|refine oa ?_)|(refine gc ?_;first|refine ct ?_|refine cf ?_)|refine sq ?_|refine rg ?_|refine xc ?_|refine nl ?_|refine sk ?_|refine bk ?_|refine xe ?_
 ·refine TX.im (B:=mit r b clock seen clock :: (lme b es clock :: lpt c [mp b] 160 :: J a)) (by exact Im.perm (by simp)) ?_
  refine e0 (D:=J a) ⟨a,⟨h1,fun k=>?_⟩,rfl⟩ (hf:=hF seen) (nb:=hnb a)
  rw [h2,Option.isSome_iff_exists]
  constructor
  ·rintro ⟨e,he,hk,_⟩;exact ⟨e.val,(hT.to k e.val).2 ⟨e,he,hk,rfl⟩⟩
  ·rintro ⟨v,hv⟩;obtain ⟨e,he,hk,_⟩:=(hT.to k v).1 hv;exact ⟨e,he,hk,all_seen es seen hz e he⟩
 ·obtain ⟨he1,he2⟩:=mem_left he
  obtain ⟨k,hk⟩:=hkey e he1
  have hka:k ∉ el a:=fun hm=>by
   obtain ⟨e',h3,h4,h5⟩:=(h2 k).1 hm
   obtain ⟨i1,hi1⟩:=mem_get.1 h3
   obtain ⟨i2,hi2⟩:=mem_get.1 he1
   have:=keys_inj hT.st.2.2 hi1 hi2 (by rw [h4,hk])
   subst this;rw [hi1] at hi2;cases hi2;rw [h5] at he2;cases he2
  have hex:∀ e' ∈ es.toList,∀ k',e'.key = I k'→(f k').isSome = true:=fun e' he' k' hk'=>by rw [(hT.to k' e'.val).2 ⟨e',he',hk',rfl⟩];rfl
  have hNl:(el a).length < N:=by
   have:=hN (el a ++ [k]) (by rw [List.nodup_append];exact ⟨h1,by simp,fun x hx y hy e=>hka (by rw [List.mem_singleton.1 hy] at e;rw [← e];exact hx)⟩) (fun k' hk'=>by
    rcases List.mem_append.1 hk' with hk' | hk'
    ·obtain ⟨e',h3,h4,_⟩:=(h2 k').1 hk';exact hex e' h3 k' h4
    ·rw [List.mem_singleton.1 hk'];exact hex e he1 k hk)
   simp at this;omega
  repeat' first|refine ent (e:=e) (b:=b) (es:=es) (clock:=clock) ?_ he1 hnd|(refine wo ?_;first|refine oa ?_)|refine sq ?_|refine rg ?_|refine xc ?_|refine nl ?_
  refine TO.im (B:=mit r b clock (seen.push e.born) clock :: (lme b es clock :: lpt c [mp b] 160 :: J a)) (by exact Im.perm (by simp)) ?_
  rw [hk]
  refine cy (hy a k hNl) ?_ (hs:=hF _)
  rintro ok B ⟨rfl,a',ha',rfl⟩
  repeat' first|(refine wo ?_;first|refine oa ?_)|(refine gc ?_;first|refine cf ?_)|refine xc ?_|refine nl ?_|refine sk ?_|refine xb ?_
  refine lp (a',seen.push e.born) ⟨by dsimp only;rw [ha',List.nodup_append];exact ⟨h1,by simp,fun x hx y hy e=>hka (by rw [List.mem_singleton.1 hy] at e;rw [← e];exact hx)⟩,fun k'=>?_⟩ (G:=[]) (hf:=?_) (hlt:=left_shrinks es seen e he)
  ·dsimp only
   rw [ha',List.mem_append,List.mem_singleton,h2]
   constructor
   ·rintro (⟨e',h3,h4,h5⟩ | rfl)
    ·exact ⟨e',h3,h4,by rw [contains_push,h5];rfl⟩
    ·exact ⟨e,he1,hk,by rw [contains_push];simp⟩
   ·rintro ⟨e',h3,h4,h5⟩
    rw [contains_push,Bool.or_eq_true] at h5
    rcases h5 with h5 | h5
    ·exact .inl ⟨e',h3,h4,h5⟩
    ·have hb:e'.born = e.born:=by simpa using h5
     have:=born_inj hnd h3 he1 hb
     subst this;rw [hk] at h4;cases h4;exact .inr rfl
  ·dsimp only;rw [List.append_nil];exact Fit.comm [mit r b clock (seen.push e.born) clock,lme b es clock,lpt c [mp b] 160] (J a')
theorem Keys_tr (b:Nat):Tr Tryz.prog 135 [mp b] [] [] fun v D=>∃ c,v = .func (.func 193) #[] #[ptr c]∧D = [pt c [mp b] 160]:=by
 refine Tr.enter env _ Tryz.func135 (by kernel_rfl) rfl Tryz.ntmps135 rfl (by repeat (first | exact has00 | refine has01 ?_)) fun w0=>?_
 repeat' first|refine bx1 fun c=>?_|(refine wo ?_;first|refine oa ?_)|refine sq ?_|refine rg ?_|refine xc ?_|refine nl ?_|refine rt ?_
 exact r1 ⟨c,rfl,rfl⟩
theorem srt_keys {k:Int} {p:Int→Bool} {zs:List Int} (h:zs.Nodup) (hz:∀ x,x ∈ zs ↔ (0 ≤ x∧x < k)∧p x = true):srt zs = (belowI k).filter p:=by
 have h2:((belowI k).filter p).Pairwise (· < ·):=(belowI_sorted k).sublist List.filter_sublist
 refine List.Perm.eq_of_pairwise (le:=(· ≤ ·)) (fun a b _ _ h1 h2=>by omega) (srt_sorted zs) (h2.imp fun h=>Int.le_of_lt h) ?_
 refine (srt_perm zs).trans ?_
 rw [List.perm_ext_iff_of_nodup h (h2.imp fun h e=>by omega)]
 intro x
 rw [hz,List.mem_filter,mem_belowI]
theorem nodup_len {zs L:List Int} (h1:zs.Nodup) (hL:L.Nodup) (h:∀ x ∈ zs,x ∈ L):zs.length ≤ L.length:=by
 have hp:zs.Perm (L.filter fun x=>decide (x ∈ zs)):=by
  rw [List.perm_ext_iff_of_nodup h1 (hL.sublist List.filter_sublist)]
  intro x
  rw [List.mem_filter,decide_eq_true_eq]
  exact ⟨fun hx=>⟨h x hx,hx⟩,fun hx=>hx.2⟩
 rw [hp.length_eq];exact List.length_filter_le _ _
noncomputable def largeR (k:Int) (ls:List (List Int)):List Int:=if stopE k ls = 0 then largeL k ls else []
theorem Largest_tr (k:Int) (s:Value) (hs:List Value) (ls:List (List Int)) (hn:ls.length ≤ 4096):Tr Tryz.prog 77 [I k,s] [vw s hs,vels hs ls] [] fun v D=>∃ o,v = tup2 o (I (stopE k ls))∧D = [own 3 o (Is (largeR k ls))]:=by
 refine Tr.enter env _ Tryz.func77 (by kernel_rfl) rfl Tryz.ntmps77 rfl (by repeat (first | exact has00 | refine has01 ?_)) fun w0=>?_
 refine TC.els (hs:=hs) (ls:=ls) (fun hl=>?_)
 repeat' first|(refine gca ?_;first|(refine ca (refuses_tr _ _ _ ls) ?_;rintro _ _ ⟨rfl,rfl⟩))|(refine wo ?_;first|(refine ao ?_;first|refine oa ?_)|refine oa ?_)|(refine gc ?_;first|(refine cn (fun hB=>?_) (fun hB=>?_) <;> try (exfalso;omega)))|refine sq ?_|refine rg ?_|refine xc ?_|refine nl ?_|refine sk ?_|refine rt ?_
 ·refine TX.im (own_nil 3 _) ?_
  exact r2 ⟨nS,rfl,by rw [largeR,if_neg (by assumption)]⟩
 have hE:stopE k ls = 0:=hB
 obtain ⟨hk1,hk2,hsets⟩:=stopE_zero hE
 refine ca (unknown_tr k s hs ls hE hn) ?_
 rintro _ _ ⟨b,G,g,rfl,rfl,hG⟩
 obtain ⟨-,hkn⟩:=known_of (k:=k) (ls:=ls) (left G) (fun s h0 h1=>by rw [hG];simp [h0,h1])
 have hleft:∀ x,(ones G x).isSome = true ↔ left G x = true:=fun x=>by unfold ones left;cases G x <;> simp
 have hD:∀ zs,KeysOf (ones G) zs→srt zs = largeL k ls:=fun zs h=>by
  rw [hkn]
  refine srt_keys h.1 fun x=>?_
  rw [h.2,hleft]
  exact ⟨fun h=>⟨((hG x).1 h).1,h⟩,fun h=>h.2⟩
 have hN:∀ zs:List Int,zs.Nodup→(∀ x ∈ zs,(ones G x).isSome = true)→zs.length ≤ 65536:=fun zs h1 h2=>by
  have:=nodup_len h1 ((belowI_sorted k).imp fun h e=>by omega) fun x hx=>mem_belowI.2 ((hG x).1 ((hleft x).1 (h2 x hx))).1
  rw [belowI_len] at this;omega
 repeat' first|(refine gca ?_;first|(refine ca (Keys_tr b) ?_;rintro _ _ ⟨c,rfl,rfl⟩))|(refine wo ?_;first|(refine ao ?_;first|refine aw ?_|refine aw6 ?_|refine oa ?_|refine adiv ?_|refine amod ?_|refine shr1 ?_|refine shr ?_|refine umod ?_|refine isl ?_|refine ipe ?_|refine ipn ?_|refine ibe ?_)|refine acw ?_|refine ucv ?_|refine anw ?_|refine oa ?_|refine ld ?_|refine ldl ?_|refine lnm ?_|refine ixmn ?_|refine ixm ?_|refine li ?_|refine lb ?_|refine lv ?_|refine ln ?_|refine ixn ?_|refine ix ?_|refine le ?_|refine sr ?_|refine soi ?_|refine sob ?_|refine scm ?_|refine sclm ?_|refine schm ?_|refine gy ?_|refine gn ?_|refine gnn ?_|refine gu ?_|(refine gsi (fun hB=>?_) (fun hB=>?_) <;> try (exfalso;omega))|(refine gsn (fun hB=>?_) (fun hB=>?_) <;> try (exfalso;omega))|(refine gs (fun hB=>?_) (fun hB=>?_) <;> try (exfalso;omega)))|(refine gc ?_;first|refine ct ?_|refine cf ?_|(refine ci (fun hB=>?_) (fun hB=>?_) <;> try (exfalso;omega))|(refine cn (fun hB=>?_) (fun hB=>?_) <;> try (exfalso;omega))|(refine cb (fun hB=>?_) (fun hB=>?_) <;> try (exfalso;omega)))|refine sq ?_|refine rg ?_|refine xc ?_|refine nl ?_|refine sk ?_|refine bk ?_|refine xe ?_|refine rt ?_|refine xb ?_
 refine ca (Sorted_tr (Keys1_seq c b (ones G) 65536 hN) (by decide)) ?_ (hp:=has1 hasA (has1 (has_mow (T:=3) (g:=g) (o:=none) memA) has0))
 rintro v _ ⟨zs,hz,rfl⟩
 rw [show largeR k ls = largeL k ls by rw [largeR,if_pos hE],hD zs hz,hE]
 repeat' first|(refine wo ?_;first|refine oa ?_)|refine xc ?_|refine nl ?_|refine rt ?_
 exact r2 ⟨v,rfl,rfl⟩
theorem Fails_tr (k:Int) (s:Value) (hs:List Value) (ls:List (List Int)) (hn:ls.length ≤ 4096):Tr Tryz.prog 103 [I k,s] [vw s hs,vels hs ls] [] fun v D=>v = tup2 (.bool (decide (0 < (largeR k ls).length))) (I (stopE k ls))∧D = []:=by
 refine Tr.enter env _ Tryz.func103 (by kernel_rfl) rfl Tryz.ntmps103 rfl (by repeat (first | exact has00 | refine has01 ?_)) fun w0=>?_
 repeat' first|(refine gca ?_;first|(refine ca (Largest_tr _ _ _ ls hn) ?_;rintro _ _ ⟨o,rfl,rfl⟩))|(refine wo ?_;first|(refine ao ?_;first|refine oa ?_)|refine oa ?_|refine lnm ?_)|refine sq ?_|refine rg ?_|refine xc ?_|refine nl ?_|refine rt ?_
 refine r2 ⟨?_,rfl⟩
 congr 3
 simp
end Go.Art
namespace Go.Art
open Go Go.Proofs Go.RowKit
abbrev irow (s:Value) (q:Rat) (h:Value × Value):List Value:=s :: rrow q h
def ics (ss:List Value) (qs:List Rat) (hs:List (Value × Value)):List Value:=(List.zipWith List.cons ss (List.zipWith rrow qs hs)).flatten
theorem ics_app {ss rs:List Value} {qs ps:List Rat} {hs gs:List (Value × Value)} (h1:ss.length = qs.length) (h2:hs.length = qs.length):ics (ss ++ rs) (qs ++ ps) (hs ++ gs) = ics ss qs hs ++ ics rs ps gs:=by
 unfold ics
 rw [List.zipWith_append h2.symm,List.zipWith_append (by simp;omega),List.flatten_append]
theorem ics_one (s:Value) (q:Rat) (h:Value × Value):ics [s] [q] [h] = irow s q h:=by simp [ics]
theorem ics_rows {ss:List Value} {qs:List Rat} {hs:List (Value × Value)}:∀ r ∈ List.zipWith List.cons ss (List.zipWith rrow qs hs),r.length = 4:=fun r hr=>by
 obtain ⟨j,hj,rfl⟩:=List.mem_iff_getElem.1 hr
 rw [List.getElem_zipWith,List.getElem_zipWith];rfl
theorem ics_row {ss:List Value} {qs:List Rat} {hs:List (Value × Value)} (h1:ss.length = qs.length) (h2:hs.length = qs.length) {i:Nat} (hi:i < qs.length):((ics ss qs hs).drop (4 * i)).take 4 = irow (ss.getD i nS) (qs.getD i 0) (hs.getD i nS2):=by
 refine flat_row (sz:=4) ics_rows ?_
 rw [List.getElem?_zipWith,List.getElem?_zipWith,List.getElem?_eq_getElem hi,List.getElem?_eq_getElem (show i < hs.length by omega),List.getElem?_eq_getElem (show i < ss.length by omega)]
 simp [List.getD_eq_getElem?_getD,hi,show i < hs.length by omega,show i < ss.length by omega]
theorem row_cell {xs:List Value} {m i:Nat} {r:List Value} (h:(xs.drop m).take 4 = r) (hi:i < 4) (hl:r.length = 4):xs[m + i]? = r[i]?:=by
 rw [← h,List.getElem?_take,if_pos hi,List.getElem?_drop]
theorem row_sub {xs:List Value} {m:Nat} {a:Value} {r:List Value} (h:(xs.drop m).take 4 = a :: r) (hl:r.length = 3):(xs.drop (m + 1)).take 3 = r:=by
 have h2:((xs.drop m).take 4).drop 1 = r:=by rw [h];rfl
 rw [List.drop_take,List.drop_drop] at h2
 exact h2
theorem has_velsI {F:List Ch} {hs:List Value} {ls:List (List Int)} (h:Has F (velg I hs ls)):Has F (vels hs ls):=⟨h.P,fun _ h=>h,fun _ h=>h,fun b hb=>h.ft b hb⟩
theorem has_pick {g:Int→Value} {F:List Ch} {ss:List Value} {ls:List (List Int)} (h:Has F (velg g ss ls)):∀ l:List Nat,(∀ i ∈ l,i < ls.length)→Has F (velg g (l.map fun i=>ss.getD i nS) (l.map fun i=>ls.getD i []))
 | [],_=>has_velg_nil
 | i :: r,hl=>has_velg_cons (has_elg h (hl i (by simp))) (has_pick h r fun j hj=>hl j (by simp [hj]))
theorem has_fpick {F:List Ch} {hs:List (Value × Value)} {qs:List Rat} (h:Has F (vfr hs qs)) (hl:hs.length = qs.length):∀ l:List Nat,(∀ i ∈ l,i < qs.length)→Has F (vfr (l.map fun i=>hs.getD i nS2) (l.map fun i=>qs.getD i 0))
 | [],_=>has_vfr_nil
 | i :: r,hm=>by
  have h2:=has_fr h hl (hm i (by simp))
  exact has_vfr_cons h2.1 h2.2 (has_fpick h hl r fun j hj=>hm j (by simp [hj]))
theorem mk_mul (a b D E:Nat) (hD:D ≠ 0) (hE:E ≠ 0):mkRat (a:Int) D * mkRat (b:Int) E = mkRat ((a * b:Nat):Int) (D * E):=by
 rw [Rat.mkRat_mul_mkRat]
 push_cast;rfl
theorem prod_mk {L:List (List Int × Nat)} {D:Nat} (hD:D ≠ 0) (l:List Nat):(l.map fun i=>mkRat (((L.getD i ([],0)).2:Nat):Int) D).foldl (· * ·) 1 = mkRat ((prdW L l:Nat):Int) (D ^ l.length):=by
 have key:∀ (l:List Nat) (a q:Nat),(l.map fun i=>mkRat (((L.getD i ([],0)).2:Nat):Int) D).foldl (· * ·) (mkRat (a:Int) (D ^ q)) = mkRat ((l.foldl (fun a i=>a * (L.getD i ([],0)).2) a:Nat):Int) (D ^ (q + l.length)):=by
  intro l
  induction l with
  | nil=>intro a q;rfl
  | cons i r ih=>
   intro a q
   rw [List.map_cons,List.foldl_cons,mk_mul _ _ _ _ (Nat.ne_of_gt (Nat.pow_pos (Nat.pos_of_ne_zero hD))) hD,← Nat.pow_succ,ih,List.foldl_cons,List.length_cons]
   congr 2;omega
 have:=key l 1 0
 rw [Nat.pow_zero,Nat.zero_add] at this
 exact this
theorem dg_pow {D b n:Nat} (h:D < 18446744073709551616 ^ b):(dg (4096 * D ^ n)).length ≤ b * n + 1:=by
 refine (dg_len _ _).2 ?_
 have h1:D ^ n ≤ (18446744073709551616 ^ b) ^ n:=Nat.pow_le_pow_left (Nat.le_of_lt h) n
 rw [← Nat.pow_mul] at h1
 rw [Nat.pow_succ,Nat.mul_comm]
 have h2:0 < 18446744073709551616 ^ (b * n):=Nat.pow_pos (by decide)
 exact Nat.lt_of_le_of_lt (Nat.mul_le_mul_right 4096 h1) (Nat.mul_lt_mul_of_pos_left (by decide) h2)
theorem FB_pow {a D b n B:Nat} (hD0:D ≠ 0) (hD:D < 18446744073709551616 ^ b) (ha:a ≤ 4096 * D ^ n) (hB:b * n + 1 ≤ B):FB (mkRat (a:Int) (D ^ n)) B:=by
 have h1:=dg_pow (n:=n) hD
 refine FB_mk (Nat.ne_of_gt (Nat.pow_pos (Nat.pos_of_ne_zero hD0))) (Nat.le_trans (dg_mono ha) (by omega)) (Nat.le_trans (dg_mono (show D ^ n ≤ 4096 * D ^ n by omega)) (by omega))
section
variable {P:Program} {E:Env P} {n:Sh} {fr:Fr} {A A' D G:List Ch} {m:Nat}
theorem mca {Ds:List Nat} {w0:World} {A0:List Ch} {R':Value→List Ch→Prop} {fn:Func} {t u:Nat} {ty T:TypeId} {dt:TypeDesc} {z:Value} {sz by_ b:Nat} {cs vs:List Value} {v2:Value} (h:R' (.tuple #[.agg vs.toArray,v2]) D) (hr:fn.results = #[.cell t ty,.tmp u]:=by rfl) (ht:lk E.und ty = some dt:=by rfl) (hg:aggB dt = true:=by rfl) (hi:lk E.inf ty = some (z,sz,by_):=by rfl)
  (hv:get fr t = some (ptr b):=by rfl) (hv2:get fr u = some v2:=by rfl) (hm:Tk (dfrl Ds) A A':=by exact tkA) (hp:pt b cs T ∈ A':=by exact memA) (hcs:cs.take sz = vs:=by rfl) (hl:vs.length = sz:=by rfl) (hf:Fit A' D G:=by exact fitA) (nb:∀ c ∈ D,∀ b,¬ c.bd b:=by (repeat (first | exact nb0 | refine nb1 ?_));first | done | fail) (hn:n = ⟨m,marks Ds,none⟩:=by rfl) :
  TX E n ⟨bodyPostM (FF none) 0 P fn (RetP (PR w0 A0 R')),w0,A0⟩ [] .ret fr A:=by
 subst hn
 exact mG (.inl rfl) h (fun w hw a ha=>res_at (E:=E) ha hr ht hg hi hv (pt_at hp hw) hcs hl hv2) hm hf nb
end
abbrev TIm:TypeId:=125
abbrev TSm:TypeId:=110
attribute [local irreducible] Fit pt own ro vw mpc lpt vels rels mow lrc dfr
attribute [local irreducible] lmp lme mit velg relg bnd owl dfrl
theorem sumAdd_tr (c:Nat) (q r:Rat) (v1 v2 v3 v4:Value) (h1:v1.oneCell' = true) (h2:v2.oneCell' = true) (h3:v3.oneCell' = true) (h4:v4.oneCell' = true) (hq:FB q 8589934592) (hr:FB r 8589934592) :
  Tr Tryz.prog 142 [rv r v3 v4,ptr c] [vw v3 (Us (dg r.num.natAbs)),vw v4 (Us (dg r.den))] [pt c (rrow q (v1,v2)) TRt,own T64 v1 (Us (dg q.num.natAbs)),own T64 v2 (Us (dg q.den))]
  fun u D=>∃ n1 n2,u = .tuple #[]∧n1.oneCell' = true∧n2.oneCell' = true∧D = [pt c (rrow (q + r) (n1,n2)) TRt,own T64 n1 (Us (dg (q + r).num.natAbs)),own T64 n2 (Us (dg (q + r).den))]:=by
 have hA:=fun lv=>FAdd2_tr q r lv v1 v2 v3 v4 hq hr
 unfold FQ2 at hA
 obtain ⟨s,hs⟩ : ∃ s,s = q + r:=⟨_,rfl⟩
 rw [← hs] at hA ⊢
 refine Tr.enter env _ Tryz.func142 (by kernel_rfl) rfl Tryz.ntmps142 rfl (by repeat (first | exact has00 | refine has01 ?_)) fun w0=>?_
 repeat' first|(refine gca ?_;first|(refine ca (hA _) ?_ (hp:=has1 (has_oww memA) (has1 hasA (has1 hasA (has1 hasA (has1 hasA has0)))));rintro _ _ ⟨n1,n2,rfl,hn1,hn2,rfl⟩))|refine bx fun b=>?_|refine lda (cs:=rrow q (v1,v2)) ?_|refine lda ?_|refine slws fun g2=>?_|refine srz ?_ (hj:=Nat.le_of_ble_eq_true rfl)|(refine wo ?_;first|refine oa ?_)|refine sq ?_|refine rg ?_|refine xc ?_|refine nl ?_
 exact e0 ⟨n1,n2,rfl,hn1,hn2,rfl⟩
theorem fails_trm (k:Int) (s:Value) (hs:List Value) (ls:List (List Int)) (hn:ls.length ≤ 4096):Tr Tryz.prog 82 [I k,s] [vw s hs,vels hs ls] [] fun v D=>v = .bool (decide (0 < (largeR k ls).length))∧D = []:=by
 refine Tr.enter env _ Tryz.func82 (by kernel_rfl) rfl Tryz.ntmps82 rfl (by repeat (first | exact has00 | refine has01 ?_)) fun w0=>?_
 repeat' first|(refine gca ?_;first|(refine ca (Fails_tr k s hs ls hn) ?_;rintro _ _ ⟨rfl,rfl⟩))|(refine wo ?_;first|refine oa ?_)|refine sq ?_|refine rg ?_|refine xc ?_|refine nl ?_|refine rt ?_
 exact r1 ⟨rfl,rfl⟩
end Go.Art
namespace Go.Art
open Go Go.Proofs Go.RowKit
def sumW (W:List (List Int)→Bool) (L:List (List Int × Nat)) (D n:Nat):Fr3 × Int:=
 if L.length ≤ 4096∧L.length ^ n ≤ 4096 then (rqf (mkRat ((natG W L n [] 1:Nat):Int) (D ^ n)),0) else (rqn,4)
abbrev fracs (L:List (List Int × Nat)) (D:Nat):List Rat:=L.map fun s=>mkRat ((s.2:Nat):Int) D
theorem fracs_get {L:List (List Int × Nat)} {D i:Nat} (h:i < L.length):(fracs L D).getD i 0 = mkRat (((L.getD i ([],0)).2:Nat):Int) D:=by simp [List.getD_eq_getElem?_getD,h]
theorem fst_get {L:List (List Int × Nat)} {i:Nat} (h:i < L.length):(L.map (·.1)).getD i [] = (L.getD i ([],0)).1:=by simp [List.getD_eq_getElem?_getD,h]
theorem elg_one {g:Int→Value} {F:List Ch} {ss:List Value} {ls:List (List Int)} (h:Has F (velg g ss ls)) {i:Nat} (hi:i < ls.length) (w:World) (hw:Sat F w):(ss.getD i nS).oneCell' = true:=by
 obtain ⟨_,_,e,_⟩:=((has_elg h hi).P w hw:Sl w _ _)
 rw [e];rfl
structure SmG where
 j:Nat
 vn:Value
 vd:Value
structure SnG where
 j:Nat
 sv:Value
 mv:Value
attribute [local irreducible] Fit pt own ro vw mpc lpt vels rels mow lrc dfr
attribute [local irreducible] lmp lme mit velg relg bnd owl dfrl accN natG tupN prdW
set_option maxHeartbeats 1000000 in
theorem Sum_tr (lv:Value) (hlv:lv.oneCell' = true) (ss:List Value) (hs:List (Value × Value)) (L:List (List Int × Nat)) (D n:Nat) (k:Int) (wf:FuncId) (W:List (List Int)→Bool) (hss:ss.length = L.length) (hhs:hs.length = L.length)
  (hL0:0 < L.length) (hwb:∀ s ∈ L,s.2 ≤ D) (hD0:D ≠ 0) (hD:D < 18446744073709551616 ^ 10) (hn:n ≤ 12)
  (hW:∀ (v:Value) (l:List Nat),l.length = n→(∀ i ∈ l,i < L.length)→Tr Tryz.prog wf [I k,v] [vw v (l.map fun i=>ss.getD i nS),vels (l.map fun i=>ss.getD i nS) (selS L l)] [] fun u D=>u = .bool (W (selS L l))∧D = []) :
  Tr Tryz.prog 81 [lv,I k,I n,.func (.func wf) #[] #[]] [vwf lv L.length (ics ss (fracs L D) hs),velg I ss (L.map (·.1)),vfr hs (fracs L D)] [] (FW (sumW W L D n)):=by
 have hE:D ^ n ≠ 0:=Nat.ne_of_gt (Nat.pow_pos (Nat.pos_of_ne_zero hD0))
 have hfl:(fracs L D).length = L.length:=by simp
 by_cases hbig:L.length ≤ 4096∧L.length ^ n ≤ 4096
 rotate_left
 ·unfold sumW
  rw [if_neg hbig]
  refine Tr.mono (R:=fun u D=>u = tup2 rv0 (I 4)∧D = [own T64 nS (Us []),own T64 nS (Us [])]) ?_ fun u D h=>FW.of0 h
  have hF:=fun h=>few_tr23 L.length n ⟨hL0,h⟩ (by omega)
  generalize ics ss (fracs L D) hs = xs at *
  refine Tr.enterM env _ Tryz.func81 (by kernel_rfl) rfl Tryz.ntmps81 rfl (by repeat (first | exact has00 | refine has01 ?_)) fun w0=>?_
  by_cases hN:L.length ≤ 4096
  ·have hF1:=hF hN
   have hno:¬ L.length ^ n ≤ 4096:=fun h=>hbig ⟨hN,h⟩
   clear hbig hE
   generalize L.length ^ n = p at *
   repeat' first|(refine gca ?_;first|(refine ca hF1 ?_;rintro _ _ ⟨⟨b,rfl,hb⟩,rfl⟩;obtain rfl:b = false:=by cases b;rfl;exact absurd (hb.1 rfl) hno))|refine bx1 fun b=>?_|refine al fun c=>?_|refine lnw (N:=L.length) (xs:=xs) ?_|refine bdz ?_|refine srz ?_|(refine wo ?_;first|(refine ao ?_;first|refine oa ?_)|refine oa ?_|refine ld ?_|refine gy ?_|(refine gsi (fun hB=>?_) (fun hB=>?_) <;> try (exfalso;omega)))|(refine gc ?_;first|refine ct ?_)|refine sq ?_|refine rg ?_|refine xc ?_|refine nl ?_|refine rt ?_
   refine TX.im (dfrl_nil _) ?_
   refine TX.im (own_nil T64 _) (TX.im (own_nil T64 _) ?_)
   exact mca (Ds:=[]) (cs:=[.bool false,nS,nS]) (vs:=[.bool false,nS,nS]) (T:=TRt) ⟨rfl,rfl⟩
  ·clear hbig hE
   repeat' first|refine bx1 fun b=>?_|refine al fun c=>?_|refine lnw (N:=L.length) (xs:=xs) ?_|refine bdz ?_|refine srz ?_|(refine wo ?_;first|(refine ao ?_;first|refine oa ?_)|refine oa ?_|refine ld ?_|refine gn ?_|(refine gsi (fun hB=>?_) (fun hB=>?_) <;> try (exfalso;omega)))|(refine gc ?_;first|refine ct ?_)|refine sq ?_|refine rg ?_|refine xc ?_|refine nl ?_|refine rt ?_
   refine TX.im (dfrl_nil _) ?_
   refine TX.im (own_nil T64 _) (TX.im (own_nil T64 _) ?_)
   exact mca (Ds:=[]) (cs:=[.bool false,nS,nS]) (vs:=[.bool false,nS,nS]) (T:=TRt) ⟨rfl,rfl⟩
 obtain ⟨hN,hNn⟩:=hbig
 unfold sumW
 rw [if_pos ⟨hN,hNn⟩]
 have hz0:mkRat ((0:Nat):Int) 1 = mkRat ((accN W L n 0:Nat):Int) (D ^ n):=by rw [accN_zero];simp
 have hP:=FPair_tr 0 1 (by decide) (by decide) (by decide)
 unfold FQ2 at hP
 rw [hz0] at hP
 have hF1:=few_tr23 L.length n ⟨hL0,hN⟩ (by omega)
 have hT:=tuples_tr (L.length:Int) (n:Int)
 have hseq:=fun pn pm=>tuples1_seq L.length n pn pm hL0 hNn (by omega) hN
 have hfull:=accN_full W hL0 n
 have hacF:∀ j,j ≤ L.length ^ n→FB (mkRat ((accN W L n j:Nat):Int) (D ^ n)) 8589934592:=fun j hj=>FB_pow hD0 hD (Nat.le_trans (accN_le hwb j) (Nat.mul_le_mul_right _ (by omega))) (by omega)
 have hacS:∀ j,mkRat ((accN W L n j:Nat):Int) (D ^ n) + mkRat ((tupN W L (digs L.length n j):Nat):Int) (D ^ n) = mkRat ((accN W L n (j + 1):Nat):Int) (D ^ n):=fun j=>by rw [mk_add _ _ _ hE,accN_succ]
 rw [← hfull]
 clear hfull hz0
 obtain ⟨ac,hac⟩ : ∃ ac:Nat→Rat,ac = fun j=>mkRat ((accN W L n j:Nat):Int) (D ^ n):=⟨_,rfl⟩
 have hac1:∀ j,mkRat ((accN W L n j:Nat):Int) (D ^ n) = ac j:=fun j=>by rw [hac]
 simp only [hac1] at hP hacF hacS ⊢
 clear hac hac1
 obtain ⟨M,hM⟩ : ∃ M,M = L.length ^ n:=⟨_,rfl⟩
 refine Tr.enterM env _ Tryz.func81 (by kernel_rfl) rfl Tryz.ntmps81 rfl (by repeat (first | exact has00 | refine has01 ?_)) fun w0=>?_
 repeat' first|(refine gca ?_;first|(refine ca hF1 ?_;rintro _ _ ⟨⟨b,rfl,hb⟩,rfl⟩;obtain rfl:b = true:=hb.2 hNn)|(refine ca hP ?_;rintro _ _ ⟨vn,vd,rfl,hvn,hvd,rfl⟩)|(refine ca hT ?_;rintro _ _ ⟨pn,pm,rfl,rfl⟩))|refine bx1 fun b=>?_|refine al fun c=>?_|refine lnw (N:=L.length) (xs:=ics ss (fracs L D) hs) ?_|refine srz ?_|(refine wo ?_;first|(refine ao ?_;first|refine oa ?_)|refine oa ?_|refine ld ?_|refine sr ?_|refine gy ?_|(refine gsi (fun hB=>?_) (fun hB=>?_) <;> try (exfalso;omega)))|(refine gc ?_;first|refine cf ?_)|refine sq ?_|refine rg ?_|refine xc ?_|refine nl ?_|refine sk ?_|refine bk ?_
 rename_i c4 c5 c8 c10
 have hS:=@SeqV.run _ _ _ _ _ (hseq pn pm)
 rw [tupsL_len] at hS
 have hfg:=fun i (h:i < L.length)=>fracs_get (D:=D) h
 have hrowA:=fun i (h:i < L.length)=>ics_row (ss:=ss) (qs:=fracs L D) (hs:=hs) (by rw [hfl];exact hss) (by rw [hfl];exact hhs) (i:=i) (by rw [hfl];exact h)
 have hqF:∀ i,i < L.length→FB ((fracs L D).getD i 0) 8589934592:=fun i h=>by
  rw [hfg i h]
  have:=FB_pow (a:=(L.getD i ([],0)).2) (n:=1) (B:=8589934592) hD0 hD (by
   rw [Nat.pow_one]
   have:=hwb (L.getD i ([],0)) (by rw [List.getD_eq_getElem?_getD,List.getElem?_eq_getElem h];exact List.getElem_mem h)
   omega) (by omega)
  rwa [Nat.pow_one] at this
 clear hseq hT hP hF1
 generalize hxs4:ics ss (fracs L D) hs = xs4 at *
 clear hxs4
 refine TC.range [lbd [lpt c4 [lv] TSm,lpt c5 [I k] TLI,lpt b [.func (.func wf) #[] #[]] 114,lpt c [.func (.func 142) #[] #[ptr c10]] 39,vwf lv L.length xs4,velg I ss (L.map (·.1)),vfr hs (fracs L D)],lpt pn [I n] TLI,lpt pm [I L.length] TLI] [pt c10 (rrow (ac 0) (vn,vd)) TRt,own T64 vn (Us (dg (ac 0).num.natAbs)),own T64 vd (Us (dg (ac 0).den))] (fun l2 rec Dm pend B'=>∃ vn vd,B' = [dfr Dm,pt c10 (rrow (ac M) (vn,vd)) TRt,own T64 vn (Us (dg (ac M).num.natAbs)),own T64 vd (Us (dg (ac M).den))]∧pend = none∧vn.oneCell' = true∧vd.oneCell' = true) ?_ ?_ (hp:=has1 (lbd_of (has1 hasA (has1 hasA (has1 hasA (has1 hasA (has1 hasA (has1 hasA (has1 hasA has0)))))))) (has1 hasA (has1 hasA has0)))
 ·intro rec l2 Dm hr
  refine Tr.unb (hS (α:=SmG) (lbd [lpt c4 [lv] TSm,lpt c5 [I k] TLI,lpt b [.func (.func wf) #[] #[]] 114,lpt c [.func (.func 142) #[] #[ptr c10]] 39,vwf lv L.length xs4,velg I ss (L.map (·.1)),vfr hs (fracs L D)]) l2 (fun g=>bnd [lrc l2 rec .ready none,dfr Dm,pt c10 (rrow (ac g.j) (g.vn,g.vd)) TRt,own T64 g.vn (Us (dg (ac g.j).num.natAbs)),own T64 g.vd (Us (dg (ac g.j).den))]) (fun g i=>g.j = i∧g.vn.oneCell' = true∧g.vd.oneCell' = true) (fun _=>False) ⟨0,vn,vd⟩ ⟨rfl,hvn,hvd⟩ (fun p=>bnd_nob (nb1 (nb1 (nb1 (nb1 (nb1 nb0)))))) ?_) ?_
  ·rintro ⟨j,vn,vd⟩ i x ⟨hji,hvn,hvd⟩ hj
   dsimp only at hji hvn hvd
   subst hji
   rw [tupsL_get hj]
   refine Ty.bnd ?_
   have hFj:=hacF j (by omega)
   have hSj:=hacS j
   obtain ⟨dl,hdl⟩ : ∃ dl,dl = digs L.length n j:=⟨_,rfl⟩
   have hdn:dl.length = n:=by rw [hdl];exact digs_len _ _ _
   have hdb:∀ i ∈ dl,i < L.length:=by rw [hdl];exact digs_lt hL0 n j
   rw [← hdl] at hSj ⊢
   clear hdl hacF hacS hS
   obtain ⟨xs,hxs⟩ : ∃ xs:List Int,xs = dl.map Int.ofNat:=⟨_,rfl⟩
   have hxl:xs.length = n:=by rw [hxs,List.length_map];exact hdn
   have hxg:∀ i,i < n→xs.getD i 0 = ((dl.getD i 0:Nat):Int):=fun i h=>by rw [hxs];simp [List.getD_eq_getElem?_getD,show i < dl.length by omega]
   rw [← hxs]
   clear hxs
   have hw1:=hW
   refine Ty.pre (pre:=vw x (Is xs) :: [lpt c4 [lv] TSm,lpt c5 [I k] TLI,lpt b [.func (.func wf) #[] #[]] 114,lpt c [.func (.func 142) #[] #[ptr c10]] 39,vwf lv L.length xs4,velg I ss (L.map (·.1)),vfr hs (fracs L D)]) ?_ (has1 hasA (has1 (has_lbd (C:=[lpt c4 [lv] TSm,lpt c5 [I k] TLI,lpt b [.func (.func wf) #[] #[]] 114,lpt c [.func (.func 142) #[] #[ptr c10]] 39,vwf lv L.length xs4,velg I ss (L.map (·.1)),vfr hs (fracs L D)]) (has_mem memA) memA) (has1 (has_lbd (C:=[lpt c4 [lv] TSm,lpt c5 [I k] TLI,lpt b [.func (.func wf) #[] #[]] 114,lpt c [.func (.func 142) #[] #[ptr c10]] 39,vwf lv L.length xs4,velg I ss (L.map (·.1)),vfr hs (fracs L D)]) (has_mem memA) memA) (has1 (has_lbd (C:=[lpt c4 [lv] TSm,lpt c5 [I k] TLI,lpt b [.func (.func wf) #[] #[]] 114,lpt c [.func (.func 142) #[] #[ptr c10]] 39,vwf lv L.length xs4,velg I ss (L.map (·.1)),vfr hs (fracs L D)]) (has_mem memA) memA) (has1 (has_lbd (C:=[lpt c4 [lv] TSm,lpt c5 [I k] TLI,lpt b [.func (.func wf) #[] #[]] 114,lpt c [.func (.func 142) #[] #[ptr c10]] 39,vwf lv L.length xs4,velg I ss (L.map (·.1)),vfr hs (fracs L D)]) (has_mem memA) memA) (has1 (has_lbd (C:=[lpt c4 [lv] TSm,lpt c5 [I k] TLI,lpt b [.func (.func wf) #[] #[]] 114,lpt c [.func (.func 142) #[] #[ptr c10]] 39,vwf lv L.length xs4,velg I ss (L.map (·.1)),vfr hs (fracs L D)]) (has_mem memA) memA) (has1 (has_lbd (C:=[lpt c4 [lv] TSm,lpt c5 [I k] TLI,lpt b [.func (.func wf) #[] #[]] 114,lpt c [.func (.func 142) #[] #[ptr c10]] 39,vwf lv L.length xs4,velg I ss (L.map (·.1)),vfr hs (fracs L D)]) (has_mem memA) memA) (has1 (has_lbd (C:=[lpt c4 [lv] TSm,lpt c5 [I k] TLI,lpt b [.func (.func wf) #[] #[]] 114,lpt c [.func (.func 142) #[] #[ptr c10]] 39,vwf lv L.length xs4,velg I ss (L.map (·.1)),vfr hs (fracs L D)]) (has_mem memA) memA) has0)))))))) (by repeat (first | exact has00 | refine has01 ?_))
   refine Ty.intro env hr (by repeat (first | exact has00 | refine has01 ?_)) fun w1=>?_
   refine TC.fact (p:=∀ i,i < L.length→(ss.getD i nS).oneCell' = true) (fun w hw i hi=>elg_one (g:=I) (ls:=L.map (·.1)) hasA (by simpa using hi) w hw) fun hso=>?_
   refine TC.fact (p:=∀ i,i < L.length→(hs.getD i nS2).1.oneCell' = true∧(hs.getD i nS2).2.oneCell' = true) (fun w hw i hi=>fr_one (hs:=hs) (qs:=fracs L D) hasA (by rw [hfl];exact hhs) (by rw [hfl];exact hi) w hw) fun hfo=>?_
   repeat' first|refine xbeg ?_|(refine wo ?_;first|refine oa ?_|refine lnm ?_)|refine sq ?_|refine rg ?_|refine xc ?_|refine nl ?_|refine bk ?_
   refine TC.im (own_nil TLs _) (TC.im (oww_nil TRt 3 _) ?_)
   refine TC.loop (ι:=SnG) (fun g=>[(43,I g.j),(14,g.sv),(15,g.mv)]) (fun g=>[own TLs g.sv ((dl.take g.j).map fun i=>ss.getD i nS),oww TRt 3 g.mv g.j (rcs ((dl.take g.j).map fun i=>(fracs L D).getD i 0) ((dl.take g.j).map fun i=>hs.getD i nS2))]) (fun g=>g.j ≤ n∧g.sv.oneCell' = true∧g.mv.oneCell' = true) (fun g=>n - g.j) ⟨0,nS,nS⟩ [4,5,7,12,41,42] ⟨Nat.zero_le _,rfl,rfl⟩ ?_
   rintro ⟨i,sv,mv⟩ ⟨hi,hsv,hmv⟩
   dsimp only at hi hsv hmv ⊢
   by_cases hlt:i < n
   ·have hi0:dl.getD i 0 < L.length:=hdb _ (by rw [List.getD_eq_getElem?_getD,List.getElem?_eq_getElem (by omega)];exact List.getElem_mem (by omega))
    have hg1:=hxg i hlt
    have htk:=take_succ' (show i < dl.length by omega) 0
    have hrow:=hrowA _ hi0
    have hs1:=hso _ hi0
    have hf1:=hfo _ hi0
    have htl:(dl.take i).length = i:=by rw [List.length_take];omega
    clear hrowA hso hfo hxg hW hw1 hqF hfg
    obtain ⟨m,hm⟩ : ∃ m,m = dl.getD i 0:=⟨_,rfl⟩
    rw [← hm] at hi0 hg1 htk hrow hs1 hf1
    clear hm
    have hcell:xs4[4 * m]? = some (ss.getD m nS):=row_cell hrow (i:=0) (by decide) rfl
    have hsub:(xs4.drop (4 * m + 1)).take 3 = rrow ((fracs L D).getD m 0) (hs.getD m nS2):=row_sub hrow rfl
    have hra:rcs ((dl.take (i + 1)).map fun i=>(fracs L D).getD i 0) ((dl.take (i + 1)).map fun i=>hs.getD i nS2) = rcs ((dl.take i).map fun i=>(fracs L D).getD i 0) ((dl.take i).map fun i=>hs.getD i nS2) ++ rrow ((fracs L D).getD m 0) (hs.getD m nS2):=by
     rw [htk,List.map_append,List.map_append,rcs_app (by simp),List.map_singleton,List.map_singleton,rcs_one]
    have hsa:((dl.take (i + 1)).map fun i=>ss.getD i nS) = ((dl.take i).map fun i=>ss.getD i nS) ++ [ss.getD m nS]:=by rw [htk,List.map_append];rfl
    have hsal:((dl.take i).map fun i=>ss.getD i nS).length ≤ 12:=by rw [List.length_map];omega
    generalize ((dl.take i).map fun i=>ss.getD i nS) = sl at *
    generalize rcs ((dl.take i).map fun i=>(fracs L D).getD i 0) ((dl.take i).map fun i=>hs.getD i nS2) = rl at *
    generalize hs.getD m nS2 = h1 at *
    generalize (fracs L D).getD m 0 = q1 at *
    generalize ss.getD m nS = s1 at *
    obtain ⟨hn1,hd1⟩:=h1
    dsimp only at hf1
    repeat' first|refine lie hg1 ?_|(refine wo ?_;first|(refine ao ?_;first|refine oa ?_)|refine oa ?_|refine ixmn ?_)|(refine gc ?_;first|(refine ci (fun hB=>?_) (fun hB=>?_) <;> try (exfalso;omega)))|refine sq ?_|refine rg ?_|refine xc ?_|refine nl ?_|refine sk ?_|refine bk ?_
    refine rs (fun w=>w.heap[c4]? = some (.cells [lv].toArray TSm (0,0))∧SlW w lv L.length xs4) ?_ (fun w hw=>⟨lpt_at memA hw,has_wf memA hw⟩)
    refine kra 0 ?_
    refine krl 1 (cs:=[lv]) (fun w h=>h.1) ?_
    refine kra 2 ?_
    refine kr 3 (v:=.pointer (some (adr lv (4 * m)))) (fun w h=>R_idxW (E:=env) (i:=(m:Int)) rfl rfl rfl rfl h.2 ⟨by omega,by omega⟩) ?_
    refine kr 4 (v:=.pointer (some (adr lv (4 * m + 0)))) (fun w h=>R_fldW (E:=env) (m:=4 * m) (fld:=⟨_,_,0,_,_,_,_⟩) rfl rfl rfl rfl rfl) ?_
    refine kr 5 (v:=s1) (fun w h=>R_load (E:=env) rfl rfl rfl (SlW.cell h.2 hcell)) ?_
    refine kra 8 ?_
    refine krl 9 (cs:=[lv]) (fun w h=>h.1) ?_
    refine kra 10 ?_
    refine kr 11 (v:=.pointer (some (adr lv (4 * m)))) (fun w h=>R_idxW (E:=env) (i:=(m:Int)) rfl rfl rfl rfl h.2 ⟨by omega,by omega⟩) ?_
    refine kr 12 (v:=.pointer (some (adr lv (4 * m + 1)))) (fun w h=>R_fldW (E:=env) (m:=4 * m) (fld:=⟨_,_,1,_,_,_,_⟩) rfl rfl rfl rfl rfl) ?_
    refine kr 13 (v:=.agg (rrow q1 (hn1,hd1)).toArray) (fun w h=>R_loadW (E:=env) rfl rfl rfl rfl h.2 hsub rfl) ?_
    refine t2 6 14 ?_ ?_
    ·refine sli (vs:=[s1]) (fun g1=>?_) (h1:=one_cons hs1 one_nil)
     refine nl ?_
     refine te (fun w hw=>⟨lpt_at memA hw,has_wf memA hw⟩) ?_
     refine t2 7 14 ?_ ?_
     ·refine ap (xs:=sl) (news:=[s1]) (fun o1=>?_) (h1:=one_cons hs1 one_nil)
      refine TO.one (v:=o1) (xs:=sl ++ [s1]) fun ho1=>?_
      refine nl ?_
      refine te (fun w hw=>⟨lpt_at memA hw,has_wf memA hw⟩) ?_
      refine t1 14 ?_
      refine slws (sz:=3) (xs:=rrow q1 (hn1,hd1)) (fun g2=>?_)
      refine nl ?_
      refine te (fun w hw=>⟨lpt_at memA hw,has_wf memA hw⟩) ?_
      refine t1 15 ?_
      refine apw (sz:=3) (M:=1) (N:=i) (xs:=rl) (ys:=rrow q1 (hn1,hd1)) (by decide) rfl (one_cons rfl (one_cons hf1.1 (one_cons hf1.2 one_nil))) (fun o2 ho2=>?_) (hu:=has_oww memA)
      refine nl ?_
      refine te (fun w hw=>⟨lpt_at memA hw,has_wf memA hw⟩) ?_
      refine kra 16 ?_
      refine kra 17 ?_
      refine t0 ?_
      repeat' first|(refine wo ?_;first|(refine ao ?_;first|refine aw ?_)|refine oa ?_)|refine rg ?_|refine xc ?_|refine nl ?_|refine xb ?_
      exact lp ⟨i + 1,o1,o2⟩ ⟨hlt,ho1,ho2⟩ (hf:=by dsimp only;rw [hsa,hra];exact fitA)
     ·refine slws (sz:=3) (xs:=rrow q1 (hn1,hd1)) (fun g2=>?_)
      refine nl ?_
      refine te (fun w hw=>⟨lpt_at memA hw,has_wf memA hw⟩) ?_
      refine t1 7 ?_
      refine ap (xs:=sl) (news:=[s1]) (fun o1=>?_) (h1:=one_cons hs1 one_nil)
      refine TO.one (v:=o1) (xs:=sl ++ [s1]) fun ho1=>?_
      refine nl ?_
      refine te (fun w hw=>⟨lpt_at memA hw,has_wf memA hw⟩) ?_
      refine t1 15 ?_
      refine apw (sz:=3) (M:=1) (N:=i) (xs:=rl) (ys:=rrow q1 (hn1,hd1)) (by decide) rfl (one_cons rfl (one_cons hf1.1 (one_cons hf1.2 one_nil))) (fun o2 ho2=>?_) (hu:=has_oww memA)
      refine nl ?_
      refine te (fun w hw=>⟨lpt_at memA hw,has_wf memA hw⟩) ?_
      refine kra 16 ?_
      refine kra 17 ?_
      refine t0 ?_
      repeat' first|(refine wo ?_;first|(refine ao ?_;first|refine aw ?_)|refine oa ?_)|refine rg ?_|refine xc ?_|refine nl ?_|refine xb ?_
      exact lp ⟨i + 1,o1,o2⟩ ⟨hlt,ho1,ho2⟩ (hf:=by dsimp only;rw [hsa,hra];exact fitA)
    ·refine slws (sz:=3) (xs:=rrow q1 (hn1,hd1)) (fun g2=>?_)
     refine nl ?_
     refine te (fun w hw=>⟨lpt_at memA hw,has_wf memA hw⟩) ?_
     refine t1 6 ?_
     refine sli (vs:=[s1]) (fun g1=>?_) (h1:=one_cons hs1 one_nil)
     refine nl ?_
     refine te (fun w hw=>⟨lpt_at memA hw,has_wf memA hw⟩) ?_
     refine t1 7 ?_
     refine ap (xs:=sl) (news:=[s1]) (fun o1=>?_) (h1:=one_cons hs1 one_nil)
     refine TO.one (v:=o1) (xs:=sl ++ [s1]) fun ho1=>?_
     refine nl ?_
     refine te (fun w hw=>⟨lpt_at memA hw,has_wf memA hw⟩) ?_
     refine t1 15 ?_
     refine apw (sz:=3) (M:=1) (N:=i) (xs:=rl) (ys:=rrow q1 (hn1,hd1)) (by decide) rfl (one_cons rfl (one_cons hf1.1 (one_cons hf1.2 one_nil))) (fun o2 ho2=>?_) (hu:=has_oww memA)
     refine nl ?_
     refine te (fun w hw=>⟨lpt_at memA hw,has_wf memA hw⟩) ?_
     refine kra 16 ?_
     refine kra 17 ?_
     refine t0 ?_
     repeat' first|(refine wo ?_;first|(refine ao ?_;first|refine aw ?_)|refine oa ?_)|refine rg ?_|refine xc ?_|refine nl ?_|refine xb ?_
     exact lp ⟨i + 1,o1,o2⟩ ⟨hlt,ho1,ho2⟩ (hf:=by dsimp only;rw [hsa,hra];exact fitA)
   ·obtain rfl:i = n:=by omega
    rw [List.take_of_length_le (show dl.length ≤ i by omega)]
    have hsel:selS L dl = dl.map fun i=>(L.map (·.1)).getD i []:=by
     unfold selS
     exact List.map_congr_left fun a ha=>(fst_get (hdb a ha)).symm
    have hqs:(dl.map fun i=>(fracs L D).getD i 0) = dl.map fun i=>mkRat (((L.getD i ([],0)).2:Nat):Int) D:=List.map_congr_left fun a ha=>hfg a (hdb a ha)
    have hprod:(dl.map fun i=>(fracs L D).getD i 0).foldl (· * ·) 1 = mkRat ((prdW L dl:Nat):Int) (D ^ i):=by rw [hqs,prod_mk hD0,hdn]
    have hMul:=fun o=>FMul_tr o (dl.map fun i=>(fracs L D).getD i 0) (dl.map fun i=>hs.getD i nS2) (by simp) (fun a ha=>by
     have ha':a < dl.length:=by simpa using ha
     rw [show (dl.map fun i=>(fracs L D).getD i 0).getD a 0 = (fracs L D).getD (dl.getD a 0) 0 by simp [List.getD_eq_getElem?_getD,ha']]
     exact hqF _ (hdb _ (by rw [List.getD_eq_getElem?_getD,List.getElem?_eq_getElem ha'];exact List.getElem_mem ha'))) (fun a ha=>by
     have ha':a < dl.length:=by simpa using ha
     rw [hqs,← List.map_take,prod_mk hD0,List.length_take,Nat.min_eq_left (by omega)]
     have hpl:=prdW_le hwb (dl.take a)
     rw [List.length_take,Nat.min_eq_left (by omega)] at hpl
     exact FB_pow hD0 hD (by omega) (by omega))
    rw [List.length_map,hdn,hprod] at hMul
    have hFt:FB (mkRat ((prdW L dl:Nat):Int) (D ^ i)) 8589934592:=by
     have hpl:=prdW_le hwb dl
     rw [hdn] at hpl
     exact FB_pow hD0 hD (by omega) (by omega)
    have hWs:=hW sv dl hdn hdb
    have hAdd:=fun v1 v2 v3 v4 h1 h2 h3 h4=>sumAdd_tr c10 (ac j) (mkRat ((prdW L dl:Nat):Int) (D ^ i)) v1 v2 v3 v4 h1 h2 h3 h4 hFj hFt
    have hpk:∀ F,velg I ss (L.map (·.1)) ∈ F→Has F (vels (dl.map fun i=>ss.getD i nS) (selS L dl)):=fun F h=>by
     rw [hsel];exact has_velsI (has_pick (has_velg h) dl fun a ha=>by simpa using hdb a ha)
    have hpf:∀ F,vfr hs (fracs L D) ∈ F→Has F (vfr (dl.map fun i=>hs.getD i nS2) (dl.map fun i=>(fracs L D).getD i 0)):=fun F h=>has_fpick (has_velg h) (by rw [hfl];exact hhs) dl fun a ha=>by rw [hfl];exact hdb a ha
    unfold FQ2 at hMul
    unfold tupN at hSj
    clear hrowA hso hfo hxg hW hw1 hqF hfg hsel hqs hprod hwb hFj hFt hD
    generalize selS L dl = sl at *
    generalize (dl.map fun i=>ss.getD i nS) = s1 at *
    generalize (dl.map fun i=>hs.getD i nS2) = f1 at *
    generalize (dl.map fun i=>(fracs L D).getD i 0) = f2 at *
    by_cases hwt:W sl = true
    ·rw [hwt] at hWs
     rw [if_pos hwt] at hSj
     generalize mkRat ((prdW L dl:Nat):Int) (D ^ i) = q1 at *
     repeat' first|(refine gca ?_;first|(refine ca (hMul mv) ?_ (hp:=has1 (has_oww memA) (has1 (hpf _ memA) has0));rintro _ _ ⟨mn,md,rfl,hmn,hmd,rfl⟩))|(refine cav (cap:=#[]) (vs:=[I k,sv]) hWs ?_ (hp:=has1 hasA (has1 (hpk _ memA) has0));rintro _ _ ⟨rfl,rfl⟩)|refine al fun c18=>?_|refine srz ?_ (hj:=Nat.le_of_ble_eq_true rfl)|refine lda ?_|(refine cav (cap:=#[ptr c10]) (vs:=[rv q1 mn md]) (hAdd vn vd mn md hvn hvd hmn hmd) ?_;rintro _ _ ⟨n1,n2,rfl,hn1,hn2,rfl⟩)|(refine wo ?_;first|(refine ao ?_;first|refine oa ?_)|refine oa ?_|refine ldl ?_)|(refine gc ?_;first|refine ct ?_|(refine ci (fun hB=>?_) (fun hB=>?_) <;> try (exfalso;omega)))|refine sq ?_|refine rg ?_|refine xc ?_|refine nl ?_|refine xe ?_|refine xb ?_
     rw [hSj]
     exact yn ⟨⟨j + 1,n1,n2⟩,rfl,.inl ⟨rfl,rfl,hn1,hn2⟩⟩
    ·have hwf:W sl = false:=by simpa using hwt
     rw [hwf] at hWs
     rw [if_neg hwt,show mkRat ((0:Nat):Int) (D ^ i) = 0 by simp,Rat.add_zero] at hSj
     rw [hSj]
     repeat' first|(refine cav (cap:=#[]) (vs:=[I k,sv]) hWs ?_ (hp:=has1 hasA (has1 (hpk _ memA) has0));rintro _ _ ⟨rfl,rfl⟩)|(refine wo ?_;first|(refine ao ?_;first|refine oa ?_)|refine oa ?_|refine ldl ?_)|(refine gc ?_;first|refine cf ?_|(refine ci (fun hB=>?_) (fun hB=>?_) <;> try (exfalso;omega)))|refine sq ?_|refine rg ?_|refine xc ?_|refine nl ?_|refine sk ?_|refine xe ?_|refine xb ?_
     exact yn ⟨⟨j + 1,vn,vd⟩,rfl,.inl ⟨rfl,rfl,hvn,hvd⟩⟩
  ·rintro _ _ ⟨⟨j,vn,vd⟩,rfl,⟨rfl,g2,g3⟩ | h⟩
   ·exact ⟨_,rfl,.ready,none,_,rfl,by decide,vn,vd,by rw [hM],rfl,g2,g3⟩
   ·exact h.elim
 ·rintro l2 rec Dm pend B' ⟨vn,vd,rfl,rfl,g2,g3⟩
  show TX env _ _ _ _ _ _
  refine TX.im (dfrl_nil _) ?_
  refine TX.im (dfrl_push (D:=Dm) (Ds:=[]) fitA) ?_
  rw [← hM]
  generalize ac M = q at *
  repeat' first|refine lda (cs:=rrow q (vn,vd)) ?_|refine srz ?_|(refine wo ?_;first|refine oa ?_)|refine sq ?_|refine rg ?_|refine xc ?_|refine nl ?_|refine rt ?_|refine xb ?_
  exact mca (Ds:=[Dm]) (cs:=rrow q (vn,vd)) (vs:=rrow q (vn,vd)) (T:=TRt) ⟨vn,vd,rfl,g2,g3,rfl⟩
end Go.Art
namespace Go.Art
open Go Go.Proofs Go.RowKit
theorem bnd_swap {X:Ch} {C:List Ch} {w:World}:Sat [X,Go.Art.bnd C] w ↔ Sat (C ++ [X]) w:=
 ⟨fun h=>bnd_sat.1 (h.perm (List.Perm.swap _ _ _)),fun h=>(bnd_sat.2 h).perm (List.Perm.swap _ _ _)⟩
theorem bnd_wr2 {X:Ch} {C:List Ch} {b:Nat}:wrs [X,Go.Art.bnd C] b ↔ wrs (C ++ [X]) b:=by
 rw [← bnd_wrs]
 constructor
 ·rintro ⟨c,hc,h⟩
  exact ⟨c,by simp only [List.mem_cons,List.not_mem_nil,or_false] at hc ⊢;exact hc.symm,h⟩
 ·rintro ⟨c,hc,h⟩
  exact ⟨c,by simp only [List.mem_cons,List.not_mem_nil,or_false] at hc ⊢;exact hc.symm,h⟩
theorem bnd_rd2 {X:Ch} {C:List Ch} {b:Nat}:rds [X,Go.Art.bnd C] b ↔ rds (C ++ [X]) b:=by
 rw [← bnd_rds]
 constructor
 ·rintro ⟨c,hc,h⟩
  exact ⟨c,by simp only [List.mem_cons,List.not_mem_nil,or_false] at hc ⊢;exact hc.symm,h⟩
 ·rintro ⟨c,hc,h⟩
  exact ⟨c,by simp only [List.mem_cons,List.not_mem_nil,or_false] at hc ⊢;exact hc.symm,h⟩
theorem Ty.bndX {P:Program} {l:Nat} {vs:List Value} {X:Ch} {pre C:List Ch} {R:Bool→List Ch→Prop} (h:Ty P l vs pre (C ++ [X]) fun b D=>R b [Go.Art.bnd D]):Ty P l vs pre [X,Go.Art.bnd C] R:=by
 refine ⟨fun w hw=>?_,h.lent⟩
 have h1:Sat (pre ++ (C ++ [X])) w:=by
  obtain ⟨a1,a2,a3⟩:=Sat.app.1 hw
  refine Sat.app.2 ⟨a1,bnd_swap.1 a2,fun a ha c hc=>?_⟩
  rcases List.mem_append.1 hc with hc | hc
  ·have a5:=a3 a ha (Go.Art.bnd C) (by simp)
   exact ⟨fun b hb hf=>a5.1 b hb (bnd_ft.2 ⟨c,hc,hf⟩),fun b hb hf=>a5.2 b ⟨c,hc,hb⟩ hf⟩
  ·rw [List.mem_singleton.1 hc];exact a3 a ha X (List.Mem.head _)
 have e1:∀ {D:List Ch} {b:Nat},wrs [Go.Art.bnd D] b ↔ wrs D b:=fun {D b}=>by have:=bnd_wrs (C:=D) (F:=[]) (b:=b);rwa [List.append_nil] at this
 have e2:∀ {D:List Ch} {b:Nat},rds [Go.Art.bnd D] b ↔ rds D b:=fun {D b}=>by have:=bnd_rds (C:=D) (F:=[]) (b:=b);rwa [List.append_nil] at this
 refine (h.run w h1).mono fun b w' ⟨B,hR,hS,hM,hB⟩=>⟨[Go.Art.bnd B],hR,bnd_sat.2 (by rw [List.append_nil];exact hS),⟨hM.os,hM.tape,hM.output,hM.size,fun k hk hn=>hM.block k hk fun hm=>hn (bnd_wr2.2 hm),fun x hx=>?_,fun x hx=>?_⟩,fun c hc x hx=>?_⟩
 ·rcases hM.wr x (e1.1 hx) with h2 | h2
  ·exact .inl (bnd_wr2.2 h2)
  ·exact .inr h2
 ·rcases hM.rd x (e2.1 hx) with h2 | h2 | h2
  ·exact .inl (bnd_wr2.2 h2)
  ·exact .inr (.inl (bnd_rd2.2 h2))
  ·exact .inr (.inr h2)
 ·obtain rfl:=List.mem_singleton.1 hc
  obtain ⟨y,hy,h2⟩:=hx
  exact hB y hy x h2
structure SeqO (P:Program) (f:FuncId) (cap:Array Value) (T:TypeId) (pre:List Ch) (L:List (List Int)):Prop where
 run:∀ {α:Type} (l:Nat) (J:α→Ch) (pl:α→Nat→Prop) (S:α→Prop) (a0:α),pl a0 0→(∀ a b,¬ (J a).bd b) →
  (∀ a i x,x.oneCell' = true→pl a i→i < L.length→Ty P l [x] [] [own T x (Is (L.getD i [])),J a] fun ok B=>∃ a',B = [J a']∧((ok = true∧pl a' (i + 1))∨(ok = false∧S a'))) →
  Tr P f (yv l :: cap.toList) pre [J a0] fun _ B=>∃ a,B = [J a]∧(pl a L.length∨S a)
 lent:∀ c ∈ pre,∀ b,¬ c.wr b∧¬ c.rd b
open Go Go.Proofs Go.RowKit
attribute [local irreducible] Fit pt own ro vw mpc lpt vels rels mow lrc dfr
attribute [local irreducible] lmp lme mit velg relg bnd owl dfrl
theorem of_tr (v:Value) (k f d:Int) (hv:v.oneCell' = true):Tr Tryz.prog 73 [I k,I f,I d,v] [] [] fun u D=>∃ pd ps pf pk,u = .func (.func 126) #[] #[ptr pd,ptr ps,ptr pf,ptr pk]∧D = [pt ps [v] TLs,pt pd [I d] TLI,pt pf [I f] TLI,pt pk [I k] TLI]:=by
 refine Tr.enter env _ Tryz.func73 (by kernel_rfl) rfl Tryz.ntmps73 rfl (by repeat (first | exact has00 | refine has01 ?_)) fun w0=>?_
 repeat' first|refine bx1 fun b=>?_|(refine wo ?_;first|refine oa ?_)|refine sq ?_|refine rg ?_|refine xc ?_|refine nl ?_|refine rt ?_
 exact r1 ⟨_,_,_,_,rfl,rfl⟩
theorem of1_seq:∀ (d f k:Nat) (b:List Int) (pd ps pf pk:Nat) (v:Value),k ≤ 65536→f ≤ 65537→b.length + d ≤ 100000→v.oneCell' = true→SeqO Tryz.prog 126 #[ptr pd,ptr ps,ptr pf,ptr pk] TLI [lpt pd [I d] TLI,lpt ps [v] TLs,lpt pf [I f] TLI,lpt pk [I k] TLI,vw v (Is b)] (risL d f k b)
 | 0,f,k,b,pd,ps,pf,pk,v,hk,hf,hb,hv=>by
  refine ⟨fun {α} l J pl S a0 h0 hnb hy=>?_,by repeat (first | exact has00 | refine has01 ?_)⟩
  haveI:∀ a,NoB (J a):=fun a=>⟨hnb a⟩
  have h1:=fun x hx=>hy a0 0 x hx h0 (by simp [risL])
  rw [show (risL 0 f k b).getD 0 [] = b from rfl] at h1
  refine Tr.enterM env _ Tryz.func126 (by kernel_rfl) rfl Tryz.ntmps126 rfl (by repeat (first | exact has00 | refine has01 ?_)) fun w0=>?_
  repeat' first|refine bx1 fun q=>?_|(refine wo ?_;first|(refine ao ?_;first|refine oa ?_)|refine ldl ?_)|(refine gc ?_;first|refine ct ?_)|refine sq ?_|refine rg ?_|refine xc ?_|refine nl ?_
  refine rs (fun w=>w.heap[q]? = some (.cells [yv l].toArray TYl (0,0))∧w.heap[ps]? = some (.cells [v].toArray TLs (0,0))) ?_ (fun w hw=>⟨pt_at memA hw,lpt_at memA hw⟩)
  refine tkl 0 (cs:=[yv l]) (fun w h=>h.1) ?_
  refine tkl 1 (cs:=[v]) (fun w h=>h.2) ?_
  refine t1 2 ?_
  refine ca (ICloneN_tr v b (by omega)) ?_
  rintro x _ ⟨hx,rfl⟩
  refine nl ?_
  refine te (fun w hw=>⟨pt_at memA hw,lpt_at memA hw⟩) ?_
  refine t1 3 ?_
  refine cy (h1 x hx) ?_
  rintro ok _ ⟨a1,rfl,hs⟩
  refine nl ?_
  refine te (fun w hw=>⟨pt_at memA hw,lpt_at memA hw⟩) ?_
  refine t0 ?_
  repeat' first|refine xc ?_|refine rt ?_
  refine TX.im (dfrl_nil _) ?_
  exact m0 (Ds:=[]) ⟨a1,rfl,hs.imp (·.2) (·.2)⟩
 | d + 1,f,k,b,pd,ps,pf,pk,v,hk,hf,hb,hv=>by
  refine ⟨fun {α} l J pl S a0 h0 hnb hy=>?_,by repeat (first | exact has00 | refine has01 ?_)⟩
  haveI:∀ a,NoB (J a):=fun a=>⟨hnb a⟩
  refine Tr.enterM env _ Tryz.func126 (by kernel_rfl) rfl Tryz.ntmps126 rfl (by repeat (first | exact has00 | refine has01 ?_)) fun w0=>?_
  repeat' first|refine bx1 fun q=>?_|(refine wo ?_;first|(refine ao ?_;first|refine oa ?_)|refine oa ?_|refine ldl ?_)|(refine gc ?_;first|refine cf ?_)|refine sq ?_|refine rg ?_|refine xc ?_|refine nl ?_|refine sk ?_|refine bk ?_
  refine TC.im (dfrl_nil _) ?_
  refine TC.loopD (ι:=EnG α) (fun g=>g.Ds) (fun g=>[(6,I ((f + g.i:Nat):Int))]) (fun g=>[dfrl g.Ds,pt q [yv l] TYl,J g.a]) (fun g=>g.i ≤ k - d - f∧pl g.a ((List.range g.i).flatMap fun j:Nat=>risL d (f + j + 1) k (b ++ [((f + j:Nat):Int)])).length) (fun g=>k - d - f - g.i) ⟨0,a0,[]⟩ [1,2,3,4,5] ⟨Nat.zero_le _,h0⟩ ?_
  rintro ⟨i,a,Ds⟩ ⟨hi,ha⟩
  dsimp only at hi ha ⊢
  by_cases hlt:i < k - d - f
  ·have ih:=fun pd ps pf pk v hv=>of1_seq d (f + i + 1) k (b ++ [((f + i:Nat):Int)]) pd ps pf pk v hk (by omega) (by simp;omega) hv
   have hg:=fun j (hj:j < (risL d (f + i + 1) k (b ++ [((f + i:Nat):Int)])).length)=>fm_get (fun j:Nat=>risL d (f + j + 1) k (b ++ [((f + j:Nat):Int)])) hlt hj []
   have hE:=fun v hv=>of_tr v (k:Int) ((f + i + 1:Nat):Int) (d:Int) hv
   have hlen:=fm_len (fun j:Nat=>risL d (f + j + 1) k (b ++ [((f + j:Nat):Int)])) i
   have hbl:b.length + 1 ≤ 17592186044416:=by omega
   have hdb:d ≤ 100000:=by omega
   clear hb
   repeat' first|(refine wo ?_;first|(refine ao ?_;first|refine aw ?_|refine oa ?_)|refine oa ?_|refine ldl ?_)|(refine gc ?_;first|(refine ci (fun hB=>?_) (fun hB=>?_) <;> try (exfalso;omega)))|refine sq ?_|refine rg ?_|refine xc ?_|refine nl ?_|refine sk ?_|refine bk ?_
   refine rs (fun w=>w.heap[ps]? = some (.cells [v].toArray TLs (0,0))∧w.heap[pk]? = some (.cells [I k].toArray TLI (0,0))∧w.heap[pd]? = some (.cells [I ((d + 1:Nat):Int)].toArray TLI (0,0))) ?_ (fun w hw=>⟨lpt_at memA hw,lpt_at memA hw,lpt_at memA hw⟩)
   refine tkl 0 (cs:=[I k]) (fun w h=>h.2.1) ?_
   refine tka 1 ?_
   refine tkw 2 ((f + i + 1:Nat):Int) ?_
   refine tkl 3 (cs:=[I ((d + 1:Nat):Int)]) (fun w h=>h.2.2) ?_
   refine tkw 4 (d:Int) ?_
   refine tkl 5 (cs:=[v]) (fun w h=>h.1) ?_
   refine tka 7 ?_
   refine t2 6 8 ?_ ?_
   ·refine ca (Clip_tr v b) ?_
    rintro _ _ ⟨rfl,rfl⟩
    refine nl ?_
    refine te (fun w hw=>⟨lpt_at memA hw,lpt_at memA hw,lpt_at memA hw⟩) ?_
    refine t1 8 ?_
    refine slii [((f + i:Nat):Int)] fun v1=>?_
    refine nl ?_
    refine te (fun w hw=>⟨lpt_at memA hw,lpt_at memA hw,lpt_at memA hw⟩) ?_
    refine t1 9 ?_
    refine apc (v:=v) (l:=b) (news:=[((f + i:Nat):Int)]) (fun v2 hv2=>?_)
    refine nl ?_
    refine te (fun w hw=>⟨lpt_at memA hw,lpt_at memA hw,lpt_at memA hw⟩) ?_
    refine t1 10 ?_
    refine ca (hE v2 hv2) ?_
    rintro _ _ ⟨pd2,ps2,pf2,pk2,rfl,rfl⟩
    refine nl ?_
    refine te (fun w hw=>⟨lpt_at memA hw,lpt_at memA hw,lpt_at memA hw⟩) ?_
    refine t0 ?_
    repeat' first|refine xc ?_|refine bk ?_
    have hS:=@SeqO.run _ _ _ _ _ _ (ih pd2 ps2 pf2 pk2 v2 hv2)
    clear ih hE
    refine TC.range [lpt pd2 [I d] TLI,lpt ps2 [v2] TLs,lpt pf2 [I ((f + i + 1:Nat):Int)] TLI,lpt pk2 [I k] TLI,vw v2 (Is (b ++ [((f + i:Nat):Int)]))] [pt q [yv l] TYl,J a] (fun l2 rec Dm pend B'=>∃ a',B' = [dfr Dm,pt q [yv l] TYl,J a']∧((pend = none∧pl a' ((List.range (i + 1)).flatMap fun j:Nat=>risL d (f + j + 1) k (b ++ [((f + j:Nat):Int)])).length)∨(pend = some .ret∧S a'))) ?_ ?_
    ·intro rec l2 Dm hr
     refine Tr.unb (hS (α:=α × Bool) l2 (fun p=>bnd [lrc l2 rec (bif p.2 then .done else .ready) (bif p.2 then some .ret else none),dfr Dm,pt q [yv l] TYl,J p.1]) (fun p j=>p.2 = false∧pl p.1 (((List.range i).flatMap fun j:Nat=>risL d (f + j + 1) k (b ++ [((f + j:Nat):Int)])).length + j)) (fun p=>p.2 = true∧S p.1) (a,false) ⟨rfl,ha⟩ (fun p=>bnd_nob (nb1 (nb1 (nb1 (nb1 nb0))))) ?_) ?_
     ·rintro ⟨a1,s⟩ j x hx ⟨hs1,hpl⟩ hj
      dsimp only at hs1 hpl
      subst hs1
      obtain ⟨hg1,hg2⟩:=hg j hj
      have h2:=hy a1 _ x hx hpl hg1
      rw [show (risL (d + 1) f k b).getD _ [] = (risL d (f + i + 1) k (b ++ [((f + i:Nat):Int)])).getD j [] from hg2] at h2
      refine Ty.bndX ?_
      generalize (risL d (f + i + 1) k (b ++ [((f + i:Nat):Int)])).getD j [] = row at *
      show Ty _ _ _ _ (lrc l2 rec .ready none :: [dfr Dm,pt q [yv l] TYl,J a1,own TLI x (Is row)]) _
      refine Ty.intro env hr (by repeat (first | exact has00 | refine has01 ?_)) fun w1=>?_
      repeat' first|refine xbeg ?_|(refine cy h2 ?_;rintro ok _ ⟨a2,rfl,⟨rfl,h3⟩ | ⟨rfl,h3⟩⟩)|(refine wo ?_;first|refine oa ?_|refine ld ?_)|(refine gc ?_;first|refine ct ?_|refine cf ?_)|refine sq ?_|refine rg ?_|refine xc ?_|refine nl ?_|refine sk ?_|refine bk ?_|refine rt ?_|refine xb ?_
      ·exact yn ⟨(a2,false),rfl,.inl ⟨rfl,rfl,h3⟩⟩
      ·exact yr ⟨(a2,true),rfl,.inr ⟨rfl,rfl,h3⟩⟩
     ·rintro _ _ ⟨⟨a1,s⟩,rfl,⟨hs1,h3⟩ | ⟨hs1,h3⟩⟩
      ·dsimp only at hs1 h3
       subst hs1
       exact ⟨_,rfl,.ready,none,_,rfl,by decide,a1,rfl,.inl ⟨rfl,by rw [hlen];exact h3⟩⟩
      ·dsimp only at hs1 h3
       subst hs1
       exact ⟨_,rfl,.done,some .ret,_,rfl,by decide,a1,rfl,.inr ⟨rfl,h3⟩⟩
    ·rintro l2 rec Dm pend B' ⟨a1,rfl,⟨rfl,h3⟩ | ⟨rfl,h3⟩⟩
     ·show TX env _ _ _ _ _ _
      refine TX.im (dfrl_push (D:=Dm) (Ds:=Ds) fitA) ?_
      repeat' first|(refine wo ?_;first|(refine ao ?_;first|refine aw ?_)|refine oa ?_)|refine rg ?_|refine xc ?_|refine nl ?_|refine xb ?_
      exact lpD ⟨i + 1,a1,Dm :: Ds⟩ ⟨hlt,h3⟩
     ·show TC env _ _ _ _ _ _
      refine TC.im (dfrl_push (D:=Dm) (Ds:=Ds) fitA) ?_
      repeat' first|refine rt ?_
      exact m0 (Ds:=Dm :: Ds) ⟨a1,rfl,.inr h3⟩
   ·refine slii [((f + i:Nat):Int)] fun v1=>?_
    refine nl ?_
    refine te (fun w hw=>⟨lpt_at memA hw,lpt_at memA hw,lpt_at memA hw⟩) ?_
    refine t1 6 ?_
    refine ca (Clip_tr v b) ?_
    rintro _ _ ⟨rfl,rfl⟩
    refine nl ?_
    refine te (fun w hw=>⟨lpt_at memA hw,lpt_at memA hw,lpt_at memA hw⟩) ?_
    refine t1 9 ?_
    refine apc (v:=v) (l:=b) (news:=[((f + i:Nat):Int)]) (fun v2 hv2=>?_)
    refine nl ?_
    refine te (fun w hw=>⟨lpt_at memA hw,lpt_at memA hw,lpt_at memA hw⟩) ?_
    refine t1 10 ?_
    refine ca (hE v2 hv2) ?_
    rintro _ _ ⟨pd2,ps2,pf2,pk2,rfl,rfl⟩
    refine nl ?_
    refine te (fun w hw=>⟨lpt_at memA hw,lpt_at memA hw,lpt_at memA hw⟩) ?_
    refine t0 ?_
    repeat' first|refine xc ?_|refine bk ?_
    have hS:=@SeqO.run _ _ _ _ _ _ (ih pd2 ps2 pf2 pk2 v2 hv2)
    clear ih hE
    refine TC.range [lpt pd2 [I d] TLI,lpt ps2 [v2] TLs,lpt pf2 [I ((f + i + 1:Nat):Int)] TLI,lpt pk2 [I k] TLI,vw v2 (Is (b ++ [((f + i:Nat):Int)]))] [pt q [yv l] TYl,J a] (fun l2 rec Dm pend B'=>∃ a',B' = [dfr Dm,pt q [yv l] TYl,J a']∧((pend = none∧pl a' ((List.range (i + 1)).flatMap fun j:Nat=>risL d (f + j + 1) k (b ++ [((f + j:Nat):Int)])).length)∨(pend = some .ret∧S a'))) ?_ ?_
    ·intro rec l2 Dm hr
     refine Tr.unb (hS (α:=α × Bool) l2 (fun p=>bnd [lrc l2 rec (bif p.2 then .done else .ready) (bif p.2 then some .ret else none),dfr Dm,pt q [yv l] TYl,J p.1]) (fun p j=>p.2 = false∧pl p.1 (((List.range i).flatMap fun j:Nat=>risL d (f + j + 1) k (b ++ [((f + j:Nat):Int)])).length + j)) (fun p=>p.2 = true∧S p.1) (a,false) ⟨rfl,ha⟩ (fun p=>bnd_nob (nb1 (nb1 (nb1 (nb1 nb0))))) ?_) ?_
     ·rintro ⟨a1,s⟩ j x hx ⟨hs1,hpl⟩ hj
      dsimp only at hs1 hpl
      subst hs1
      obtain ⟨hg1,hg2⟩:=hg j hj
      have h2:=hy a1 _ x hx hpl hg1
      rw [show (risL (d + 1) f k b).getD _ [] = (risL d (f + i + 1) k (b ++ [((f + i:Nat):Int)])).getD j [] from hg2] at h2
      refine Ty.bndX ?_
      generalize (risL d (f + i + 1) k (b ++ [((f + i:Nat):Int)])).getD j [] = row at *
      show Ty _ _ _ _ (lrc l2 rec .ready none :: [dfr Dm,pt q [yv l] TYl,J a1,own TLI x (Is row)]) _
      refine Ty.intro env hr (by repeat (first | exact has00 | refine has01 ?_)) fun w1=>?_
      repeat' first|refine xbeg ?_|(refine cy h2 ?_;rintro ok _ ⟨a2,rfl,⟨rfl,h3⟩ | ⟨rfl,h3⟩⟩)|(refine wo ?_;first|refine oa ?_|refine ld ?_)|(refine gc ?_;first|refine ct ?_|refine cf ?_)|refine sq ?_|refine rg ?_|refine xc ?_|refine nl ?_|refine sk ?_|refine bk ?_|refine rt ?_|refine xb ?_
      ·exact yn ⟨(a2,false),rfl,.inl ⟨rfl,rfl,h3⟩⟩
      ·exact yr ⟨(a2,true),rfl,.inr ⟨rfl,rfl,h3⟩⟩
     ·rintro _ _ ⟨⟨a1,s⟩,rfl,⟨hs1,h3⟩ | ⟨hs1,h3⟩⟩
      ·dsimp only at hs1 h3
       subst hs1
       exact ⟨_,rfl,.ready,none,_,rfl,by decide,a1,rfl,.inl ⟨rfl,by rw [hlen];exact h3⟩⟩
      ·dsimp only at hs1 h3
       subst hs1
       exact ⟨_,rfl,.done,some .ret,_,rfl,by decide,a1,rfl,.inr ⟨rfl,h3⟩⟩
    ·rintro l2 rec Dm pend B' ⟨a1,rfl,⟨rfl,h3⟩ | ⟨rfl,h3⟩⟩
     ·show TX env _ _ _ _ _ _
      refine TX.im (dfrl_push (D:=Dm) (Ds:=Ds) fitA) ?_
      repeat' first|(refine wo ?_;first|(refine ao ?_;first|refine aw ?_)|refine oa ?_)|refine rg ?_|refine xc ?_|refine nl ?_|refine xb ?_
      exact lpD ⟨i + 1,a1,Dm :: Ds⟩ ⟨hlt,h3⟩
     ·show TC env _ _ _ _ _ _
      refine TC.im (dfrl_push (D:=Dm) (Ds:=Ds) fitA) ?_
      repeat' first|refine rt ?_
      exact m0 (Ds:=Dm :: Ds) ⟨a1,rfl,.inr h3⟩
  ·obtain rfl:i = k - d - f:=by omega
   repeat' first|(refine wo ?_;first|(refine ao ?_;first|refine aw ?_|refine oa ?_)|refine oa ?_|refine ldl ?_)|(refine gc ?_;first|(refine ci (fun hB=>?_) (fun hB=>?_) <;> try (exfalso;omega)))|refine sq ?_|refine rg ?_|refine xc ?_|refine nl ?_|refine xe ?_
   exact m0e ⟨a,rfl,.inl ha⟩
end Go.Art
namespace Go.Art
open Go Go.Proofs Go.RowKit
attribute [local irreducible] Fit pt own ro vw mpc lpt vels rels mow lrc dfr
end Go.Art
namespace Go.Art
open Go Go.Proofs Go.RowKit
attribute [local irreducible] Fit pt own ro vw mpc lpt vels rels mow lrc dfr
end Go.Art
namespace Go.Art
open Go Go.Proofs Go.RowKit
attribute [local irreducible] Fit pt own ro vw mpc lpt vels rels mow lrc dfr
end Go.Art
namespace Go.Art
open Go Go.Proofs Go.RowKit
attribute [local irreducible] Fit pt own ro vw mpc lpt vels rels mow lrc dfr
end Go.Art
namespace Go.Art
open Go Go.Proofs Go.RowKit
section
variable {P:Program} {E:Env P} {n:Sh} {X:Cx} {s:List K} {fr:Fr} {A:List Ch} {ops:Array Oper} {rest:List Oper} {d:Nat} {ty t t':TypeId} {pos:String} {after:Array Edge} {x:Operand}
end
attribute [local irreducible] Fit pt own ro vw mpc lpt vels rels mow lrc dfr
end Go.Art
namespace Go.Art
open Go Go.Proofs Go.RowKit
attribute [local irreducible] Fit pt own ro vw mpc lpt vels rels mow lrc dfr
end Go.Art
namespace Go.Art
open Go Go.Proofs Go.RowKit
attribute [local irreducible] Fit pt own ro vw mpc lpt vels rels mow lrc dfr
attribute [local irreducible] lmp lme mit velg relg bnd owl
end Go.Art
namespace Go.Art
open Go Go.Proofs Go.RowKit
theorem chs_bnd:∀ n d,chs n d ≤ 2 ^ n
 | 0,0=>by simp [chs]
 | 0,d + 1=>by simp [chs]
 | n + 1,0=>by rw [show chs (n + 1) 0 = 1 from rfl];exact Nat.one_le_two_pow
 | n + 1,d + 1=>by
  rw [show chs (n + 1) (d + 1) = chs n d + chs n (d + 1) from rfl,Nat.pow_succ]
  have:=chs_bnd n d;have:=chs_bnd n (d + 1);omega
def risJ (d f k j:Nat):List (List Int):=(risR d (f + j + 1) k).map fun l=>((f + j:Nat):Int) :: l
attribute [local irreducible] Fit pt own ro vw mpc lpt vels rels mow lrc dfr
attribute [local irreducible] lmp lme mit velg relg bnd owl risJ
end Go.Art
namespace Go.Art
open Go Go.Proofs Go.RowKit
attribute [local irreducible] Fit pt own ro vw mpc lpt vels rels mow lrc dfr
end Go.Art
namespace Go.Art
open Go Go.Proofs Go.RowKit
theorem owl_ones {e:TypeId} {g:Int→Value} {hs:List Value} {ls:List (List Int)} {A:List Ch} (hl:hs.length = ls.length) (h:owl e g hs ls ∈ A) (w:World) (hw:Sat A w):∀ c ∈ hs,c.oneCell' = true:=fun c hc=>by
 obtain ⟨i,hi,rfl⟩:=List.mem_iff_getElem.1 hc
 have h1:Sat (owls e g hs ls) w:=hw.h _ h
 have h2:OwnO w e (hs.getD i nS) ((ls.getD i []).map g):=h1.h _ (List.mem_of_getElem? (owls_get hl (by omega)))
 rw [List.getD_eq_getElem?_getD,List.getElem?_eq_getElem hi] at h2
 rcases h2 with ⟨h3,_⟩ | ⟨b,o,cap,cur,h3,_⟩
 ·show Value.oneCell' hs[i] = true;rw [show hs[i] = _ from h3];rfl
 ·show Value.oneCell' hs[i] = true;rw [show hs[i] = _ from h3];rfl
attribute [local irreducible] Fit pt own ro vw mpc lpt vels rels mow lrc dfr
attribute [local irreducible] lmp lme mit velg relg bnd owl dfrl
end Go.Art
namespace Go.Art
open Go Go.Proofs Go.RowKit
def szL (t:List Int) (k i:Nat):List (List Int):=if t.getD i 0 = 0 then [] else risR (i + 1) 0 k
theorem setP_zero (t:List Int) (k:Nat):setP t k 0 = []:=rfl
theorem setP_succ (t:List Int) (k n:Nat):setP t k (n + 1) = setP t k n ++ szL t k n:=fm_succ _ _
theorem setP_pre (t:List Int) (k:Nat) {i n:Nat} (h:i ≤ n):∃ r,setP t k n = setP t k i ++ r:=fm_pre _ h
theorem szL_len {t:List Int} {k i:Nat}:(szL t k i).length = if t.getD i 0 = 0 then 0 else chs k (i + 1):=by
 unfold szL
 split
 ·rfl
 ·rw [risR_len];rfl
theorem solE_13 {t:List Int} {k:Int} (hz:¬ solE t k = 0):solE t k = 13:=by
 unfold solE at hz ⊢
 split
 ·rfl
 ·split
  ·rename_i a b;exact absurd (by rw [if_neg a,if_pos b]) hz
  ·rfl
theorem setsW_err {t:List Int} {k:Int} (h:¬ solE t k = 0):setsW t k = ([],13):=if_neg h
theorem setsW_long {t:List Int} {k:Int} (h:solE t k = 0) (h2:4096 < (setP t k.toNat t.length).length):setsW t k = ([],4):=by unfold setsW;rw [if_pos h,if_pos h2]
theorem setsW_ok {t:List Int} {k:Int} (h:solE t k = 0) (h2:¬ 4096 < (setP t k.toNat t.length).length):setsW t k = (setP t k.toNat t.length,0):=by unfold setsW;rw [if_pos h,if_neg h2]
attribute [local irreducible] Fit pt own ro vw mpc lpt vels rels mow lrc dfr
attribute [local irreducible] lmp lme mit velg relg bnd owl
attribute [local irreducible] setP szL solE
end Go.Art
namespace Go.Art
open Go Go.Proofs Go.RowKit
structure StG where
 i:Nat
 v:Value
 hs:List Value
 Ds:List Nat
attribute [local irreducible] Fit pt own ro vw mpc lpt vels rels mow lrc dfr
attribute [local irreducible] lmp lme mit velg relg bnd owl dfrl setP szL solE
theorem MSets_tr (tv:Value) (t:List Int) (k:Int):Tr Tryz.prog 34 [tv,I k] [vw tv (Is t)] []
  fun u D=>∃ v hs,u = tup2 v (I (setsW t k).2)∧v.oneCell' = true∧hs.length = (setsW t k).1.length∧D = [own TLs v hs,owl TLI I hs (setsW t k).1]:=by
 have hC:=SoCheck_tr tv t k
 by_cases hz:solE t k = 0
 rotate_left
 ·rw [setsW_err hz]
  have h13:solE t k = 13:=solE_13 hz
  rw [h13] at hC
  refine Tr.enterM env _ Tryz.func34 (by kernel_rfl) rfl Tryz.ntmps34 rfl (by repeat (first | exact has00 | refine has01 ?_)) fun w0=>?_
  repeat' first|(refine gca ?_;first|(refine ca hC ?_;rintro _ _ ⟨rfl,rfl⟩))|refine al fun c=>?_|(refine wo ?_;first|(refine ao ?_;first|refine oa ?_)|refine oa ?_|refine sr ?_)|(refine gc ?_;first|refine ct ?_)|refine sq ?_|refine rg ?_|refine xc ?_|refine nl ?_|refine rt ?_
  refine TX.im (dfrl_nil _) ?_
  refine TX.im (owl_nil (e:=TLI) (g:=I) _) ?_
  refine TX.im (own_nil TLs _) ?_
  exact mcc (Ds:=[]) (T:=TLL) (T2:=TEr) ⟨nS,[],rfl,rfl,rfl,rfl⟩
 rw [hz] at hC
 obtain ⟨z1,z2,z3,_⟩:=solE_zero hz
 obtain ⟨kn,rfl⟩ : ∃ kn:Nat,k = kn:=⟨k.toNat,by omega⟩
 have hlong:=@setsW_long t kn hz
 have hok:=@setsW_ok t kn hz
 rw [Int.toNat_natCast] at hlong hok
 clear z3 hz
 have hp:=@setP_pre t kn
 refine Tr.enterM env _ Tryz.func34 (by kernel_rfl) rfl Tryz.ntmps34 rfl (by repeat (first | exact has00 | refine has01 ?_)) fun w0=>?_
 refine TC.leni (v:=tv) (l:=t) fun htl=>?_
 repeat' first|(refine gca ?_;first|(refine ca hC ?_;rintro _ _ ⟨rfl,rfl⟩))|refine al fun c=>?_|(refine wo ?_;first|(refine ao ?_;first|refine oa ?_)|refine oa ?_|refine lnm ?_)|(refine gc ?_;first|refine cf ?_)|refine sq ?_|refine rg ?_|refine xc ?_|refine nl ?_|refine sk ?_|refine bk ?_
 rename_i c4 c5
 clear hC
 refine TC.im (owl_nil (e:=TLI) (g:=I) _) ?_
 refine TC.im (own_nil TLs _) ?_
 refine TC.im (dfrl_nil _) ?_
 refine TC.loopD (ι:=StG) (fun g=>g.Ds) (fun g=>[(16,I g.i)]) (fun g=>[dfrl g.Ds,pt c [g.v] TLL,own TLs g.v g.hs,owl TLI I g.hs (setP t kn g.i),pt c4 [nS] TLL,pt c5 [I 0] TEr]) (fun g=>g.i ≤ t.length∧g.v.oneCell' = true∧g.hs.length = (setP t kn g.i).length∧(setP t kn g.i).length ≤ 4096) (fun g=>t.length - g.i) ⟨0,nS,[],[]⟩ [0,1,4,5,6,14,15] ⟨Nat.zero_le _,rfl,by rw [setP_zero];rfl,by rw [setP_zero];exact Nat.zero_le _⟩ ?_ (hf:=by dsimp only;rw [setP_zero];exact fitA)
 rintro ⟨i,v,hs,Ds⟩ ⟨hi,hv,hl,hl2⟩
 dsimp only at hi hv hl hl2 ⊢
 by_cases hlt:i < t.length
 ·have hss:=setP_succ t kn i
  obtain ⟨r2,hr2⟩:=@hp (i + 1) t.length hlt
  clear hp
  by_cases hti:t.getD i 0 = 0
  ·rw [show szL t kn i = [] by unfold szL;exact if_pos hti,List.append_nil] at hss
   repeat' first|refine lie hti ?_|(refine wo ?_;first|(refine ao ?_;first|refine aw ?_|refine oa ?_)|refine oa ?_|refine ixmn ?_)|(refine gc ?_;first|refine ct ?_|(refine ci (fun hB=>?_) (fun hB=>?_) <;> try (exfalso;omega)))|refine sq ?_|refine rg ?_|refine xc ?_|refine nl ?_|refine sk ?_|refine bk ?_|refine xe ?_
   exact lpD ⟨i + 1,v,hs,Ds⟩ ⟨hlt,hv,by dsimp only;rw [hss];exact hl,by dsimp only;rw [hss];exact hl2⟩ (hf:=by dsimp only;rw [hss];exact fitA)
  ·have hO:=of_tr nS (kn:Int) ((0:Nat):Int) ((i + 1:Nat):Int) rfl
   have hseq:=fun pd ps pf pk=>of1_seq (i + 1) 0 kn [] pd ps pf pk nS (by omega) (by omega) (by simp;omega) rfl
   rw [risL_nil,← show szL t kn i = risR (i + 1) 0 kn by unfold szL;exact if_neg hti] at hseq
   rw [hr2,hss] at hlong
   clear hr2 hok
   generalize szL t kn i = L at *
   generalize setP t kn i = M at *
   generalize hy:t.getD i 0 = y at *
   repeat' first|(refine gca ?_;first|(refine ca hO ?_;rintro _ _ ⟨pd,ps,pf,pk,rfl,rfl⟩))|refine lie hy ?_|(refine aw (m:=((i + 1:Nat):Int)) ?_)|(refine wo ?_;first|(refine ao ?_;first|refine oa ?_)|refine oa ?_|refine ixmn ?_)|(refine gc ?_;first|(refine ci (fun hB=>?_) (fun hB=>?_) <;> try (exfalso;omega)))|refine sq ?_|refine rg ?_|refine xc ?_|refine nl ?_|refine sk ?_|refine bk ?_
   have hS:=@SeqO.run _ _ _ _ _ _ (hseq pd ps pf pk)
   clear hseq hO
   rw [show owl TLI I hs M = owl TLI I hs (M ++ L.take 0) by rw [List.take_zero,List.append_nil]]
   refine TC.range [lpt pd [I ((i + 1:Nat):Int)] TLI,lpt ps [nS] TLs,lpt pf [I ((0:Nat):Int)] TLI,lpt pk [I kn] TLI,vw nS (Is [])] [pt c [v] TLL,pt c5 [I 0] TEr,pt c4 [nS] TLL,own TLs v hs,owl TLI I hs (M ++ L.take 0)] (fun l2 rec Dm pend B'=>∃ v hs j,hs.length = M.length + j∧v.oneCell' = true∧((pend = none∧j = L.length∧M.length + j ≤ 4096∧B' = [dfr Dm,pt c [v] TLL,pt c5 [I 0] TEr,pt c4 [nS] TLL,own TLs v hs,owl TLI I hs (M ++ L.take j)])∨(pend = some .ret∧4096 < M.length + L.length∧B' = [dfr Dm,pt c [v] TLL,pt c5 [I 4] TEr,pt c4 [nS] TLL,own TLs v hs,owl TLI I hs (M ++ L.take j)]))) ?_ ?_
   ·intro rec l2 Dm hr
    refine Tr.unb (hS (α:=RwsG) l2 (fun g=>bnd [lrc l2 rec (bif g.st then .done else .ready) (bif g.st then some .ret else none),dfr Dm,pt c [g.v] TLL,pt c5 [I (bif g.st then 4 else 0)] TEr,pt c4 [nS] TLL,own TLs g.v g.hs,owl TLI I g.hs (M ++ L.take g.i)]) (fun g j=>g.st = false∧g.i = j∧g.hs.length = M.length + j∧M.length + j ≤ 4096∧g.v.oneCell' = true) (fun g=>g.st = true∧4096 < M.length + L.length∧g.hs.length = M.length + g.i∧g.v.oneCell' = true) ⟨v,hs,0,false⟩ ⟨rfl,rfl,hl,hl2,hv⟩ (fun p=>bnd_nob (nb1 (nb1 (nb1 (nb1 (nb1 (nb1 (nb1 nb0)))))))) ?_) ?_
    ·rintro ⟨v,hs,j,st⟩ j' x hx ⟨g1,g2,g3,g4,g5⟩ hj
     dsimp only at g1 g2 g3 g4 g5
     subst g1
     subst g2
     have hll:(L.take j).length = j:=by rw [List.length_take];omega
     have htk:=take_succ' hj []
     refine Ty.bndX ?_
     generalize L.getD j [] = row at *
     show Ty _ _ _ _ (lrc l2 rec .ready none :: [dfr Dm,pt c [v] TLL,pt c5 [I 0] TEr,pt c4 [nS] TLL,own TLs v hs,owl TLI I hs (M ++ L.take j),own TLI x (Is row)]) _
     refine Ty.intro env hr (by repeat (first | exact has00 | refine has01 ?_)) fun w1=>?_
     by_cases hfull:M.length + j = 4096
     ·have hlb:4096 < M.length + L.length:=by omega
      repeat' first|refine xbeg ?_|(refine wo ?_;first|(refine ao ?_;first|refine oa ?_)|refine oa ?_|refine ld ?_|refine ln ?_|refine sr ?_)|(refine gc ?_;first|(refine ci (fun hB=>?_) (fun hB=>?_) <;> try (exfalso;omega)))|refine sq ?_|refine rg ?_|refine xc ?_|refine nl ?_|refine bk ?_|refine rt ?_
      exact yr ⟨⟨v,hs,j,true⟩,rfl,.inr ⟨rfl,rfl,hlb,g3,g5⟩⟩
     ·repeat' first|refine xbeg ?_|refine sli (vs:=[x]) (fun q2=>?_) (h1:=one_cons hx one_nil)|(refine ap (xs:=hs) (news:=[x]) (fun o2=>?_) (h1:=one_cons hx one_nil);refine TO.one (v:=o2) (xs:=hs ++ [x]) fun ho2=>?_)|(refine wo ?_;first|(refine ao ?_;first|refine oa ?_)|refine oa ?_|refine ld ?_|refine ln ?_|refine sr ?_)|(refine gc ?_;first|(refine ci (fun hB=>?_) (fun hB=>?_) <;> try (exfalso;omega)))|refine sq ?_|refine rg ?_|refine xc ?_|refine nl ?_|refine sk ?_|refine bk ?_|refine xb ?_
      refine TX.im (owl_push (hs:=hs) (ls:=M ++ L.take j) (v:=x) (l:=row) (by rw [List.length_append,hll];exact g3) fitA) ?_
      rw [List.append_assoc,← htk]
      exact yn ⟨⟨o2,hs ++ [x],j + 1,false⟩,rfl,.inl ⟨rfl,rfl,rfl,by simp [g3];omega,by omega,ho2⟩⟩
    ·rintro _ _ ⟨⟨v,hs,j,st⟩,rfl,⟨g1,g2,g3,g4,g5⟩ | ⟨g1,g2,g3,g4⟩⟩
     ·dsimp only at g1 g2 g3 g4 g5
      subst g1
      exact ⟨_,rfl,.ready,none,_,rfl,by decide,v,hs,j,by omega,g5,.inl ⟨rfl,by omega,by omega,rfl⟩⟩
     ·dsimp only at g1 g2 g3 g4
      subst g1
      exact ⟨_,rfl,.done,some .ret,_,rfl,by decide,v,hs,j,g3,g4,.inr ⟨rfl,g2,rfl⟩⟩
   ·rintro l2 rec Dm pend B' ⟨v,hs,j,g1,g2,⟨rfl,g3,g4,rfl⟩ | ⟨rfl,g3,rfl⟩⟩
    ·show TX env _ _ _ _ _ _
     refine TX.im (dfrl_push (D:=Dm) (Ds:=Ds) fitA) ?_
     rw [g3,List.take_length,← hss]
     repeat' first|(refine wo ?_;first|(refine ao ?_;first|refine aw ?_)|refine oa ?_)|refine rg ?_|refine xc ?_|refine nl ?_|refine xb ?_
     exact lpD ⟨i + 1,v,hs,Dm :: Ds⟩ ⟨hlt,g2,by dsimp only;rw [hss,List.length_append];omega,by dsimp only;rw [hss,List.length_append];omega⟩
    ·show TC env _ _ _ _ _ _
     rw [hlong (by simp only [List.length_append];omega)]
     refine TC.im (dfrl_push (D:=Dm) (Ds:=Ds) fitA) ?_
     repeat' first|refine rt ?_
     refine TX.im (owl_nil (e:=TLI) (g:=I) _) ?_
     refine TX.im (own_nil TLs _) ?_
     exact mcc (Ds:=Dm :: Ds) (T:=TLL) (T2:=TEr) ⟨nS,[],rfl,rfl,rfl,rfl⟩
 ·obtain rfl:i = t.length:=by omega
  rw [hok (by omega)]
  repeat' first|(refine wo ?_;first|(refine ao ?_;first|refine oa ?_)|refine ld ?_|refine sr ?_)|(refine gc ?_;first|(refine ci (fun hB=>?_) (fun hB=>?_) <;> try (exfalso;omega)))|refine sq ?_|refine rg ?_|refine xc ?_|refine nl ?_|refine xe ?_|refine rt ?_
  exact mcc (Ds:=Ds) (T:=TLL) (T2:=TEr) ⟨v,hs,rfl,hv,hl,rfl⟩
end Go.Art
namespace Go.Art
open Go Go.Proofs Go.RowKit
def refE (t:List Int) (k n:Int):Int:=if solE t k = 0 then (if n < 0∨4096 < n then 3 else 0) else 13
theorem refE_zero {t:List Int} {k n:Int} (h:refE t k n = 0):solE t k = 0∧0 ≤ n∧n ≤ 4096:=by
 unfold refE at h
 split at h
 ·split at h
  ·cases h
  ·exact ⟨by assumption,by omega,by omega⟩
 ·cases h
def prodC (k:Nat):Nat→Nat
 | 0=>1
 | i + 1=>prodC k i * chs k (i + 1)
def prodX (k d:Nat):Nat→Nat
 | 0=>1
 | i + 1=>if i + 1 = d then prodX k d i else prodX k d i * chs k (i + 1)
theorem prodX_lt {k d:Nat}:∀ {n:Nat},n < d→prodX k d n = prodC k n
 | 0,_=>rfl
 | n + 1,h=>by unfold prodX prodC;rw [if_neg (by omega),prodX_lt (by omega)]
theorem prodX_mul {k d:Nat} (h1:1 ≤ d):∀ {n:Nat},d ≤ n→prodX k d n * chs k d = prodC k n
 | 0,h=>by omega
 | n + 1,h=>by
  unfold prodX prodC
  by_cases e:n + 1 = d
  ·rw [if_pos e,prodX_lt (by omega),e]
  ·rw [if_neg e,← prodX_mul h1 (by omega),Nat.mul_assoc,Nat.mul_comm (chs k (n + 1)),← Nat.mul_assoc]
theorem prodC_pos {k:Nat}:∀ {n:Nat},n ≤ k→prodC k n ≠ 0
 | 0,_=>Nat.one_ne_zero
 | n + 1,h=>by unfold prodC;exact Nat.mul_ne_zero (prodC_pos (by omega)) (chs_pos (by omega))
theorem prodC_le {k:Nat} (hk:k ≤ 40):∀ n,prodC k n ≤ 1099511627776 ^ n
 | 0=>by simp [prodC]
 | n + 1=>by
  unfold prodC
  rw [Nat.pow_succ]
  exact Nat.mul_le_mul (prodC_le hk n) (Nat.le_trans (chs_bnd k (n + 1)) (Nat.le_trans (Nat.pow_le_pow_right (by decide) hk) (by decide)))
theorem prodX_le {k d n:Nat} (h1:1 ≤ d) (h2:d ≤ n) (h3:n ≤ k):prodX k d n ≤ prodC k n:=by
 rw [← prodX_mul h1 h2]
 exact Nat.le_mul_of_pos_right _ (Nat.pos_of_ne_zero (chs_pos (by omega)))
def oneS (t:List Int) (k:Nat):Nat:=t.sum.toNat * prodC k t.length
def wS (t:List Int) (k d:Nat):Nat:=(t.getD (d - 1) 0).toNat * prodX k d t.length
def itemS (t:List Int) (k:Nat):List (List Int × Nat):=(setP t k t.length).map fun s=>(s,wS t k s.length)
theorem itemS_len (t:List Int) (k:Nat):(itemS t k).length = (setP t k t.length).length:=by simp [itemS]
theorem itemS_fst (t:List Int) (k:Nat):(itemS t k).map (·.1) = setP t k t.length:=by unfold itemS;rw [List.map_map];exact List.map_id _
theorem le_sum {t:List Int} (h:∀ w ∈ t,0 ≤ w):∀ w ∈ t,w ≤ t.sum:=by
 induction t with
 | nil=>intro w hw;cases hw
 | cons a r ih=>
  intro w hw
  have h1:0 ≤ r.sum:=by
   clear ih hw
   induction r with
   | nil=>simp
   | cons b s ih2=>
    have:=h b (by simp)
    have:=ih2 fun w hw=>h w (by rcases List.mem_cons.1 hw with rfl | hw;simp;simp [hw])
    simp only [List.sum_cons];omega
  rw [List.sum_cons]
  have ha:=h a (by simp)
  rcases List.mem_cons.1 hw with rfl | hw
  ·omega
  ·have:=ih (fun w hw=>h w (by simp [hw])) w hw;omega
theorem oneS_pos {t:List Int} {k:Nat} (hz:solE t k = 0):oneS t k ≠ 0:=by
 obtain ⟨z1,z2,z3,z4⟩:=solE_zero hz
 have:=sum_posT z3 z4
 exact Nat.mul_ne_zero (by omega) (prodC_pos (by omega))
theorem oneS_lt {t:List Int} {k:Nat} (hz:solE t k = 0) (hk:k ≤ 40) (hl:t.length ≤ 12):oneS t k < 18446744073709551616 ^ 10:=by
 obtain ⟨z1,z2,z3,z4⟩:=solE_zero hz
 have h1:=(sum_wOk z3).2
 have h2:t.sum.toNat ≤ 268435456:=by
  have:(16777215:Int) * t.length ≤ 16777215 * 12:=by omega
  omega
 have h3:=prodC_le hk t.length
 have h4:1099511627776 ^ t.length ≤ 1099511627776 ^ 12:=Nat.pow_le_pow_right (by decide) hl
 have h5:oneS t k ≤ 268435456 * 1099511627776 ^ 12:=Nat.mul_le_mul h2 (Nat.le_trans h3 h4)
 exact Nat.lt_of_le_of_lt h5 (by decide)
theorem wS_le {t:List Int} {k d:Nat} (hz:solE t k = 0) (h1:1 ≤ d) (h2:d ≤ t.length):wS t k d ≤ oneS t k:=by
 obtain ⟨z1,z2,z3,z4⟩:=solE_zero hz
 have hm:t.getD (d - 1) 0 ∈ t:=by rw [List.getD_eq_getElem?_getD,List.getElem?_eq_getElem (by omega)];exact List.getElem_mem (by omega)
 have:=le_sum (fun w hw=>(z3 w hw).1) _ hm
 exact Nat.mul_le_mul (by omega) (prodX_le h1 h2 (by omega))
theorem cha_eq {t:List Int} {k d:Nat} (hz:solE t k = 0) (h1:1 ≤ d) (h2:d ≤ t.length):mkRat (t.getD (d - 1) 0) (chs k d * t.sum.toNat) = mkRat ((wS t k d:Nat):Int) (oneS t k):=by
 obtain ⟨z1,z2,z3,z4⟩:=solE_zero hz
 have hs:=sum_posT z3 z4
 have hm:t.getD (d - 1) 0 ∈ t:=by rw [List.getD_eq_getElem?_getD,List.getElem?_eq_getElem (by omega)];exact List.getElem_mem (by omega)
 have h0:=(z3 _ hm).1
 have hx:prodX k d t.length ≠ 0:=fun e=>by
  have:=prodX_mul (k:=k) h1 h2
  rw [e,Nat.zero_mul] at this
  exact prodC_pos (k:=k) (n:=t.length) (by omega) this.symm
 have:=mk_scale (t.getD (d - 1) 0).toNat (chs k d * t.sum.toNat) (prodX k d t.length) (Nat.mul_ne_zero (chs_pos (by omega)) (by omega)) hx
 rw [Int.toNat_of_nonneg h0] at this
 rw [this]
 congr 1
 unfold oneS
 rw [← prodX_mul (k:=k) h1 h2]
 grind
theorem itemS_mem {t:List Int} {k:Nat} {s:List Int × Nat} (h:s ∈ itemS t k):(1 ≤ s.1.length∧s.1.length ≤ t.length)∧s.2 = wS t k s.1.length∧s.1 ∈ risR s.1.length 0 k:=by
 obtain ⟨l,hl,rfl⟩:=List.mem_map.1 h
 obtain ⟨a1,a2,_,a4⟩:=setP_mem hl
 exact ⟨⟨a1,a2⟩,rfl,a4⟩
theorem itemS_le {t:List Int} {k:Nat} (hz:solE t k = 0):∀ s ∈ itemS t k,s.2 ≤ oneS t k:=fun s h=>by
 obtain ⟨a1,a2,_⟩:=itemS_mem h
 rw [a2];exact wS_le hz a1.1 a1.2
theorem itemS_pos {t:List Int} {k:Nat} (hz:solE t k = 0):0 < (itemS t k).length:=by
 obtain ⟨z1,z2,z3,w,hw,hw0⟩:=solE_zero hz
 obtain ⟨i,hi,rfl⟩:=List.mem_iff_getElem.1 hw
 rw [itemS_len]
 obtain ⟨r,hr⟩:=setP_pre t k (show i + 1 ≤ t.length from hi)
 have h1:(szL t k i).length ≠ 0:=by
  rw [szL_len,if_neg (by simp [List.getD_eq_getElem?_getD,hi];omega)]
  exact chs_pos (by omega)
 rw [hr,setP_succ]
 simp only [List.length_append];omega
def massW (W:List (List Int)→Bool) (t:List Int) (k n:Int):Fr3 × Int:=
 if refE t k n = 0 then (if (setsW t k).2 = 0 then sumW W (itemS t k.toNat) (oneS t k.toNat) n.toNat else (rqn,4)) else (rqn,refE t k n)
structure DrG where
 i:Nat
 v:Value
 hs:List (Value × Value)
attribute [local irreducible] Fit pt own ro vw mpc lpt vels rels mow lrc dfr
attribute [local irreducible] lmp lme mit velg relg bnd owl setP szL solE risR chaW oneS wS
theorem mrefuses_tr (tv:Value) (t:List Int) (k n:Int):Tr Tryz.prog 83 [tv,I k,I n] [vw tv (Is t)] [] fun u D=>u = I (refE t k n)∧D = []:=by
 have hC:=SoCheck_tr tv t k
 have h13:=@solE_13 t k
 unfold refE
 refine Tr.enter env _ Tryz.func83 (by kernel_rfl) rfl Tryz.ntmps83 rfl (by repeat (first | exact has00 | refine has01 ?_)) fun w0=>?_
 by_cases hz:solE t k = 0
 ·rw [hz] at hC
  rw [if_pos hz]
  repeat' first|(refine gca ?_;first|(refine ca hC ?_;rintro _ _ ⟨rfl,rfl⟩))|(refine wo ?_;first|(refine ao ?_;first|refine oa ?_)|refine oa ?_|refine gy ?_|refine gn ?_|(refine gsi (fun hB=>?_) (fun hB=>?_) <;> try (exfalso;omega)))|(refine gc ?_;first|refine ct ?_|refine cf ?_|(refine ci (fun hB=>?_) (fun hB=>?_) <;> try (exfalso;omega)))|refine sq ?_|refine rg ?_|refine xc ?_|refine nl ?_|refine sk ?_|refine bk ?_|refine rt ?_|refine xb ?_
  all_goals first | exact r1 ⟨by rw [if_pos (by omega)],rfl⟩ | exact r1 ⟨by rw [if_neg (by omega)],rfl⟩
 ·rw [h13 hz] at hC
  rw [if_neg hz]
  repeat' first|(refine gca ?_;first|(refine ca hC ?_;rintro _ _ ⟨rfl,rfl⟩))|(refine wo ?_;first|(refine ao ?_;first|refine oa ?_)|refine oa ?_)|(refine gc ?_;first|refine ct ?_)|refine sq ?_|refine rg ?_|refine xc ?_|refine nl ?_|refine bk ?_|refine rt ?_
  exact r1 ⟨rfl,rfl⟩
abbrev itmC (v:Value) (ss:List Value) (hs:List (Value × Value)) (L:List (List Int × Nat)) (D:Nat):List Ch:=[oww TIm 4 v L.length (ics ss (fracs L D) hs),owl TLI I ss (L.map (·.1)),ofr hs (fracs L D)]
theorem drawn_err (tv:Value) (t:List Int) (k n:Int) (hz:refE t k n ≠ 0):Tr Tryz.prog 80 [tv,I k,I n] [vw tv (Is t)] [] fun u D=>u = tup2 nS (I (refE t k n))∧D = []:=by
 have hR:=mrefuses_tr tv t k n
 generalize refE t k n = e at *
 refine Tr.enter env _ Tryz.func80 (by kernel_rfl) rfl Tryz.ntmps80 rfl (by repeat (first | exact has00 | refine has01 ?_)) fun w0=>?_
 repeat' first|(refine gca ?_;first|(refine ca hR ?_;rintro _ _ ⟨rfl,rfl⟩))|(refine wo ?_;first|(refine ao ?_;first|refine oa ?_)|refine oa ?_)|(refine gc ?_;first|(refine cn (fun hB=>?_) (fun hB=>?_) <;> try (exfalso;omega)))|refine sq ?_|refine rg ?_|refine xc ?_|refine nl ?_|refine rt ?_
 exact r2 ⟨rfl,rfl⟩
theorem drawn_long (tv:Value) (t:List Int) (k n:Int) (hz:refE t k n = 0) (h2:setsW t k = ([],4)):Tr Tryz.prog 80 [tv,I k,I n] [vw tv (Is t)] [] fun u D=>u = tup2 nS (I 4)∧D = []:=by
 have hR:=mrefuses_tr tv t k n
 have hS:=MSets_tr tv t k
 rw [hz] at hR
 rw [h2] at hS
 refine Tr.enter env _ Tryz.func80 (by kernel_rfl) rfl Tryz.ntmps80 rfl (by repeat (first | exact has00 | refine has01 ?_)) fun w0=>?_
 repeat' first|(refine gca ?_;first|(refine ca hR ?_;rintro _ _ ⟨rfl,rfl⟩)|(refine ca hS ?_;rintro _ _ ⟨v,hs,rfl,hv,hl,rfl⟩))|(refine wo ?_;first|(refine ao ?_;first|refine oa ?_)|refine oa ?_|refine ln ?_)|(refine gc ?_;first|refine cf ?_)|refine sq ?_|refine rg ?_|refine xc ?_|refine nl ?_|refine sk ?_|refine bk ?_
 obtain rfl:hs = []:=List.length_eq_zero_iff.1 hl
 refine TC.loop (ι:=Nat) (fun i=>[(31,I i)]) (fun _=>[]) (fun i=>i = 0) (fun i=>0) 0 [11,10,30] rfl ?_
 rintro i rfl
 repeat' first|(refine wo ?_;first|(refine ao ?_;first|refine oa ?_)|refine oa ?_)|(refine gc ?_;first|refine cf ?_)|refine sq ?_|refine rg ?_|refine xc ?_|refine nl ?_|refine xe ?_|refine rt ?_
 exact r2 ⟨rfl,rfl⟩
theorem drawn_tr (tv:Value) (t:List Int) (k:Nat) (n:Int) (hz:refE t k n = 0) (h2:setsW t k = (setP t k t.length,0)) (h3:(setP t k t.length).length ≤ 4096):Tr Tryz.prog 80 [tv,I k,I n] [vw tv (Is t)] []
  fun u D=>∃ v ss hs,u = tup2 v (I 0)∧v.oneCell' = true∧ss.length = (itemS t k).length∧hs.length = (itemS t k).length∧D = itmC v ss hs (itemS t k) (oneS t k):=by
 have hR:=mrefuses_tr tv t k n
 have hS:=MSets_tr tv t k
 obtain ⟨hsz,_⟩:=refE_zero hz
 rw [hz] at hR
 rw [h2] at hS
 have hCh:=fun d=>ChaW_tr tv t k d
 have hmem:=@itemS_mem t k
 have hce:=fun d h1 h2=>cha_eq (d:=d) hsz h1 h2
 have hcw:∀ d:Nat,1 ≤ d→d ≤ t.length→chaW t k d = (rqf (mkRat (t.getD (d - 1) 0) (chs k d * t.sum.toNat)),0):=fun d h1 h2=>by
  unfold chaW
  rw [if_pos hsz,if_neg (by omega),Int.toNat_natCast,Int.toNat_natCast,show (((d:Int) - 1).toNat) = d - 1 by omega]
 obtain ⟨L,hL⟩ : ∃ L,L = itemS t k:=⟨_,rfl⟩
 have hLl:L.length ≤ 4096:=by rw [hL,itemS_len];exact h3
 rw [← itemS_fst,← hL] at hS
 simp only [← hL] at hmem ⊢
 have hgl:∀ i,i < L.length→L.getD i ([],0) ∈ L:=fun i h=>by rw [List.getD_eq_getElem?_getD,List.getElem?_eq_getElem h];exact List.getElem_mem h
 have hlen:∀ s ∈ L,s.1.length ≤ t.length:=fun s hs=>(hmem hs).1.2
 have hch:∀ i,i < L.length→chaW t k ((L.getD i ([],0)).1.length) = (rqf ((fracs L (oneS t k)).getD i 0),0):=fun i h=>by
  obtain ⟨a1,a2,_⟩:=hmem (hgl i h)
  rw [hcw _ a1.1 a1.2,hce _ a1.1 a1.2,fracs_get h,a2]
 have hfl:(fracs L (oneS t k)).length = L.length:=by simp
 have hll:(L.map fun s:List Int × Nat=>s.1).length = L.length:=List.length_map ..
 have hfg:=fun i (h:i < L.length)=>fst_get (L:=L) h
 clear hL hz h2 h3 hmem hce hcw hgl
 unfold itmC
 generalize fracs L (oneS t k) = Q at *
 rw [hll] at hS
 refine Tr.enter env _ Tryz.func80 (by kernel_rfl) rfl Tryz.ntmps80 rfl (by repeat (first | exact has00 | refine has01 ?_)) fun w0=>?_
 refine TC.leni (v:=tv) (l:=t) fun htl=>?_
 repeat' first|(refine gca ?_;first|(refine ca hR ?_;rintro _ _ ⟨rfl,rfl⟩)|(refine ca hS ?_;rintro _ _ ⟨sv,ss,rfl,hsv,hsl,rfl⟩))|(refine wo ?_;first|(refine ao ?_;first|refine oa ?_)|refine oa ?_|refine ln ?_)|(refine gc ?_;first|refine cf ?_)|refine sq ?_|refine rg ?_|refine xc ?_|refine nl ?_|refine sk ?_|refine bk ?_
 refine TC.im (oww_nil TIm 4 _) (TC.im (owl_nil (e:=T64) (g:=wU) _) ?_)
 refine TC.fact (owl_ones (e:=TLI) (g:=I) (hs:=ss) (ls:=L.map fun s=>s.1) (by rw [hll];exact hsl) memA) fun hso=>?_
 refine TC.loop (ι:=DrG) (fun g=>[(31,I g.i),(11,g.v)]) (fun g=>[oww TIm 4 g.v g.i (ics (ss.take g.i) (Q.take g.i) g.hs),ofr g.hs (Q.take g.i)]) (fun g=>g.i ≤ L.length∧g.v.oneCell' = true∧g.hs.length = g.i) (fun g=>L.length - g.i) ⟨0,nS,[]⟩ [0,1,10,29,30] ⟨Nat.zero_le _,rfl,rfl⟩ ?_
 rintro ⟨i,v,hs⟩ ⟨hi,hv,hl⟩
 dsimp only at hi hv hl ⊢
 by_cases hlt:i < L.length
 ·have hg1:ss[i]? = some (ss.getD i nS):=by rw [List.getD_eq_getElem?_getD,List.getElem?_eq_getElem (by omega)];rfl
  have hs1:(ss.getD i nS).oneCell' = true:=hso _ (by rw [List.getD_eq_getElem?_getD,List.getElem?_eq_getElem (by omega)];exact List.getElem_mem (by omega))
  have hsl1:∀ F,owl TLI I ss (L.map fun s=>s.1) ∈ F→Has F (vw (ss.getD i nS) (Is (L.getD i ([],0)).1)):=fun F h=>by
   have:=has_elg (g:=I) (hs:=ss) (ls:=L.map fun s=>s.1) (has_owl (e:=TLI) (by rw [hll];exact hsl) h) (i:=i) (by rw [hll];exact hlt)
   rwa [hfg i hlt] at this
  have hc:=hch i hlt
  have hC1:=hCh ((L.getD i ([],0)).1.length:Int)
  rw [hc] at hC1
  have hst:=take_succ' (show i < ss.length by omega) nS
  have hqt:=take_succ' (show i < Q.length by omega) 0
  have hqtl:(Q.take i).length = i:=by rw [List.length_take];omega
  have hra:=fun vn vd=>ics_app (ss:=ss.take i) (rs:=[ss.getD i nS]) (qs:=Q.take i) (ps:=[Q.getD i 0]) (hs:=hs) (gs:=[(vn,vd)]) (by simp only [List.length_take];omega) (by rw [hqtl];exact hl)
  simp only [← hst,← hqt,ics_one] at hra
  have hrl:=hlen (L.getD i ([],0)) (by rw [List.getD_eq_getElem?_getD,List.getElem?_eq_getElem hlt];exact List.getElem_mem hlt)
  unfold FW at hC1
  dsimp only at hC1
  clear hso hch hCh hfg hst hc hlen
  generalize (L.getD i ([],0)).1 = row at *
  generalize ss.getD i nS = s1 at *
  generalize Q.getD i 0 = q at *
  repeat' first|(refine gca ?_;first|(refine ca hC1 ?_;rintro _ _ ⟨vn,vd,rfl,hvn,hvd,rfl⟩))|refine le (xs:=ss) ?_ (hj:=hg1)|(refine lnm (l:=row) ?_ (hh:=hsl1 _ memA))|refine al fun c14=>?_|refine srz ?_|refine lda ?_|refine bdm ?_|refine slws (sz:=4) (xs:=irow s1 q (vn,vd)) (fun g2=>?_)|refine apw (sz:=4) (M:=1) (N:=i) (xs:=ics (ss.take i) (Q.take i) hs) (ys:=irow s1 q (vn,vd)) (by decide) rfl (one_cons hs1 (one_cons rfl (one_cons hvn (one_cons hvd one_nil)))) (fun o2 ho2=>?_) (hu:=has_oww memA)|(refine wo ?_;first|(refine ao ?_;first|refine aw ?_|refine oa ?_)|refine oa ?_|refine ixn ?_)|(refine gc ?_;first|(refine ci (fun hB=>?_) (fun hB=>?_) <;> try (exfalso;omega)))|refine sq ?_|refine rg ?_|refine xc ?_|refine nl ?_|refine sk ?_|refine bk ?_|refine xb ?_
  refine TX.im (ofr_snoc (qs:=Q.take i) (by rw [hqtl];exact hl) q vn vd fitA) ?_
  rw [← hqt]
  exact lp ⟨i + 1,o2,hs ++ [(vn,vd)]⟩ ⟨hlt,ho2,by simp [hl]⟩ (hf:=by dsimp only;rw [hra];exact fitA)
 ·obtain rfl:i = L.length:=by omega
  rw [List.take_of_length_le (show ss.length ≤ L.length by omega),List.take_of_length_le (show Q.length ≤ L.length by omega)]
  repeat' first|(refine wo ?_;first|(refine ao ?_;first|refine oa ?_)|refine oa ?_)|(refine gc ?_;first|(refine ci (fun hB=>?_) (fun hB=>?_) <;> try (exfalso;omega)))|refine sq ?_|refine rg ?_|refine xc ?_|refine nl ?_|refine xe ?_|refine rt ?_
  exact r2 ⟨v,ss,hs,rfl,hv,by omega,hl,rfl⟩
theorem setsW_cases {t:List Int} {k:Nat} (hz:solE t k = 0):(setsW t k = (setP t k t.length,0)∧(setP t k t.length).length ≤ 4096)∨setsW t k = ([],4):=by
 by_cases h:4096 < (setP t k t.length).length
 ·exact .inr (setsW_long hz (by rw [Int.toNat_natCast];exact h))
 ·refine .inl ⟨?_,by omega⟩
  have:=setsW_ok hz (by rw [Int.toNat_natCast];exact h)
  rwa [Int.toNat_natCast] at this
noncomputable abbrev failW (k:Int) (ls:List (List Int)):Bool:=decide (0 < (largeR k ls).length)
theorem MFail_tr (tv:Value) (t:List Int) (k n:Int) (hl:t.length ≤ 12) (hk:k ≤ 40∨65536 < k) (hn:n ≤ 12∨4096 < n):Tr Tryz.prog 37 [tv,I k,I n] [vw tv (Is t)] [] (FW (massW (failW k) t k n)):=by
 unfold massW
 by_cases hz:refE t k n = 0
 rotate_left
 ·rw [if_neg hz]
  have hD:=drawn_err tv t k n hz
  refine Tr.mono (R:=fun u D=>u = tup2 rv0 (I (refE t k n))∧D = [own T64 nS (Us []),own T64 nS (Us [])]) ?_ fun u D h=>FW.of0 h
  generalize refE t k n = e at *
  refine Tr.enter env _ Tryz.func37 (by kernel_rfl) rfl Tryz.ntmps37 rfl (by repeat (first | exact has00 | refine has01 ?_)) fun w0=>?_
  repeat' first|(refine gca ?_;first|(refine ca hD ?_;rintro _ _ ⟨rfl,rfl⟩))|refine al fun c=>?_|refine bdz ?_|refine srz ?_|(refine wo ?_;first|(refine ao ?_;first|refine oa ?_)|refine oa ?_)|(refine gc ?_;first|(refine cn (fun hB=>?_) (fun hB=>?_) <;> try (exfalso;omega)))|refine sq ?_|refine rg ?_|refine xc ?_|refine nl ?_|refine rt ?_
  refine TX.im (own_nil T64 _) (TX.im (own_nil T64 _) ?_)
  exact rca (cs:=[.bool false,nS,nS]) (vs:=[.bool false,nS,nS]) (T:=TRt) ⟨rfl,rfl⟩
 rw [if_pos hz]
 obtain ⟨hsz,hn0,hn1⟩:=refE_zero hz
 obtain ⟨z1,z2,_⟩:=solE_zero hsz
 obtain ⟨kn,rfl⟩ : ∃ kn:Nat,k = kn:=⟨k.toNat,by omega⟩
 obtain ⟨nn,rfl⟩ : ∃ nn:Nat,n = nn:=⟨n.toNat,by omega⟩
 rw [Int.toNat_natCast,Int.toNat_natCast]
 rcases setsW_cases hsz with ⟨h1,h2⟩ | h1
 rotate_left
 ·rw [h1,if_neg (by decide)]
  have hD:=drawn_long tv t kn nn hz h1
  refine Tr.mono (R:=fun u D=>u = tup2 rv0 (I 4)∧D = [own T64 nS (Us []),own T64 nS (Us [])]) ?_ fun u D h=>FW.of0 h
  refine Tr.enter env _ Tryz.func37 (by kernel_rfl) rfl Tryz.ntmps37 rfl (by repeat (first | exact has00 | refine has01 ?_)) fun w0=>?_
  repeat' first|(refine gca ?_;first|(refine ca hD ?_;rintro _ _ ⟨rfl,rfl⟩))|refine al fun c=>?_|refine bdz ?_|refine srz ?_|(refine wo ?_;first|(refine ao ?_;first|refine oa ?_)|refine oa ?_)|(refine gc ?_;first|refine ct ?_)|refine sq ?_|refine rg ?_|refine xc ?_|refine nl ?_|refine rt ?_
  refine TX.im (own_nil T64 _) (TX.im (own_nil T64 _) ?_)
  exact rca (cs:=[.bool false,nS,nS]) (vs:=[.bool false,nS,nS]) (T:=TRt) ⟨rfl,rfl⟩
 rw [h1,if_pos rfl]
 have hD:=drawn_tr tv t kn nn hz h1 h2
 have hLp:=itemS_pos hsz
 have hLb:=itemS_le hsz
 have hO0:=oneS_pos hsz
 have hO1:=oneS_lt hsz (by omega) hl
 have hS:=fun v hv ss hs a b=>Sum_tr v hv ss hs (itemS t kn) (oneS t kn) nn (kn:Int) 82 (failW kn) a b hLp hLb hO0 hO1 (by omega) (fun v l hl hi=>fails_trm (kn:Int) v (l.map fun i=>ss.getD i nS) (selS (itemS t kn) l) (by unfold selS;rw [List.length_map];omega))
 clear hLb hO0 hO1 h1 h2 hLp
 generalize sumW (failW kn) (itemS t kn) (oneS t kn) nn = sw at *
 generalize itemS t kn = L at *
 generalize oneS t kn = D1 at *
 obtain ⟨⟨s1,s2,s3⟩,e⟩:=sw
 unfold FW at hS ⊢
 dsimp only at hS ⊢
 unfold itmC at hD
 have hll:(L.map fun s:List Int × Nat=>s.1).length = L.length:=List.length_map ..
 have hfl:(fracs L D1).length = L.length:=List.length_map ..
 refine Tr.enter env _ Tryz.func37 (by kernel_rfl) rfl Tryz.ntmps37 rfl (by repeat (first | exact has00 | refine has01 ?_)) fun w0=>?_
 repeat' first|(refine gca ?_;first|(refine ca hD ?_;rintro _ _ ⟨v,ss,hs,rfl,hv,hss,hhs,rfl⟩)|(refine ca (hS v hv ss hs hss hhs) ?_ (hp:=has1 (has_oww memA) (has1 (has_owl (e:=TLI) (by rw [hll];exact hss) memA) (has1 (has_ofr (by rw [hfl];exact hhs) memA) has0)));rintro _ _ ⟨vn,vd,rfl,hvn,hvd,rfl⟩))|refine al fun c=>?_|refine srz ?_|(refine wo ?_;first|(refine ao ?_;first|refine oa ?_)|refine oa ?_)|(refine gc ?_;first|refine cf ?_)|refine sq ?_|refine rg ?_|refine xc ?_|refine nl ?_|refine sk ?_|refine rt ?_
 exact rca (cs:=[.bool s1,vn,vd]) (vs:=[.bool s1,vn,vd]) (T:=TRt) ⟨vn,vd,rfl,hvn,hvd,rfl⟩
end Go.Art
namespace Go.Art
open Go Go.Proofs Go.RowKit
open Go
theorem sum_at {f g:Nat→Int} {a:Nat}:∀ {n:Nat},a < n→(∀ c,c < n→c ≠ a→f c = g c)→((List.range n).map f).sum = ((List.range n).map g).sum + (f a - g a)
 | 0,h,_=>absurd h (Nat.not_lt_zero _)
 | n + 1,h,hh=>by
  simp only [List.range_succ,List.map_append,List.sum_append,List.map_cons,List.map_nil,List.sum_cons,List.sum_nil]
  by_cases e:a = n
  ·subst e
   rw [show (List.range a).map f = (List.range a).map g from List.map_congr_left fun c hc=>hh c (by have:=List.mem_range.1 hc;omega) (by have:=List.mem_range.1 hc;omega)]
   omega
  ·have:=sum_at (f:=f) (g:=g) (a:=a) (n:=n) (by omega) fun c hc hca=>hh c (by omega) hca
   have:=hh n (by omega) (fun k=>e k.symm)
   omega
theorem sum_at2 {f g:Nat→Int} {a b n:Nat} (ha:a < n) (hb:b < n) (hab:a ≠ b) (h:∀ c,c < n→c ≠ a→c ≠ b→f c = g c):((List.range n).map f).sum = ((List.range n).map g).sum + (f a - g a) + (f b - g b):=by
 rw [sum_at (f:=f) (g:=fun c=>if c = a then g c else f c) ha (fun c _ hca=>by rw [if_neg hca])]
 rw [sum_at (f:=fun c=>if c = a then g c else f c) (g:=g) hb (fun c hc hcb=>by
  by_cases e:c = a
  ·rw [if_pos e]
  ·rw [if_neg e];exact h c hc e hcb)]
 rw [if_pos rfl,if_neg (fun k=>hab k.symm)]
 omega
theorem sum_single {n j:Nat} (h:j < n) (x:Int):((List.range n).map fun c=>if c = j then x else 0).sum = x:=by
 have:=sum_at (f:=fun c=>if c = j then x else 0) (g:=fun _=>0) h (fun c _ hc=>if_neg hc)
 have z:((List.range n).map fun _=>(0:Int)).sum = 0:=by
  clear this h
  induction n with
  | zero=>rfl
  | succ n ih=>rw [List.range_succ,List.map_append,List.sum_append,ih];rfl
 rw [this,z,if_pos rfl];omega
def shw (all:Int) (u:AlS) (c j:Nat):Int:=
 if (c:Int) ∈ u.B ++ u.A then (if c = j then u.rest.getD c 0 else 0) else ((if c = j then u.cut.getD c 0 else 0) + (if u.oth.getD c 0 = j then all - u.cut.getD c 0 else 0))
structure AlM (t:List Int) (all:Int) (u:AlS):Prop where
 op:∀ c:Nat,c < t.length→(c:Int) ∈ u.B ++ u.A→u.cut.getD c 0 = all∧u.oth.getD c 0 = c
 mass:∀ j:Nat,j < t.length→((List.range t.length).map fun c=>shw all u c j).sum = t.getD j 0 * t.length
theorem alIn_rest (t:List Int) (all:Int):∀ n,n ≤ t.length→(alIn t all n).rest.length = t.length∧(∀ c,c < n→(alIn t all n).rest.getD c 0 = t.getD c 0 * t.length∧((c:Int) ∈ (alIn t all n).B ++ (alIn t all n).A ↔ t.getD c 0 * t.length ≠ all))∧(∀ x ∈ (alIn t all n).B ++ (alIn t all n).A,0 ≤ x∧x < n)
 | 0,_=>⟨by simp [alIn],fun c h=>absurd h (Nat.not_lt_zero _),fun x h=>by simp [alIn] at h⟩
 | n + 1,h=>by
  obtain ⟨h0,h1,h2⟩:=alIn_rest t all n (by omega)
  have hm:∀ x,x ∈ (alIn t all (n + 1)).B ++ (alIn t all (n + 1)).A ↔ (x ∈ (alIn t all n).B ++ (alIn t all n).A∨(x = (n:Int)∧t.getD n 0 * t.length ≠ all)):=fun x=>by
   show x ∈ (if t.getD n 0 * t.length < all then srt ((n:Int) :: (alIn t all n).B) else (alIn t all n).B) ++ (if t.getD n 0 * t.length < all then (alIn t all n).A else if t.getD n 0 * t.length > all then srt ((n:Int) :: (alIn t all n).A) else (alIn t all n).A) ↔ _
   by_cases c1:t.getD n 0 * t.length < all
   ·rw [if_pos c1,if_pos c1,List.mem_append,(srt_perm _).mem_iff,List.mem_cons,List.mem_append]
    constructor
    ·rintro ((e | e) | e)
     ·exact .inr ⟨e,by omega⟩
     ·exact .inl (.inl e)
     ·exact .inl (.inr e)
    ·rintro ((e | e) | ⟨e,_⟩)
     ·exact .inl (.inr e)
     ·exact .inr e
     ·exact .inl (.inl e)
   ·rw [if_neg c1,if_neg c1]
    by_cases c2:t.getD n 0 * t.length > all
    ·rw [if_pos c2,List.mem_append,(srt_perm _).mem_iff,List.mem_cons,List.mem_append]
     constructor
     ·rintro (e | e | e)
      ·exact .inl (.inl e)
      ·exact .inr ⟨e,by omega⟩
      ·exact .inl (.inr e)
     ·rintro ((e | e) | ⟨e,_⟩)
      ·exact .inl e
      ·exact .inr (.inr e)
      ·exact .inr (.inl e)
    ·rw [if_neg c2]
     exact ⟨.inl,fun e=>e.resolve_right fun k=>k.2 (by omega)⟩
  refine ⟨by show ((alIn t all n).rest.set n _).length = _;rw [List.length_set];exact h0,fun c hc=>?_,fun x hx=>?_⟩
  ·have hr:(alIn t all (n + 1)).rest.getD c 0 = if n = c then t.getD n 0 * t.length else (alIn t all n).rest.getD c 0:=getD_set _ _ _ _ (by omega)
   rw [hr,hm]
   by_cases e:n = c
   ·subst e
    rw [if_pos rfl]
    refine ⟨rfl,fun k=>?_,fun k=>.inr ⟨rfl,k⟩⟩
    rcases k with k | k
    ·have:=(h2 _ k).2;omega
    ·exact k.2
   ·rw [if_neg e]
    obtain ⟨g1,g2⟩:=h1 c (by omega)
    refine ⟨g1,fun k=>?_,fun k=>.inl (g2.2 k)⟩
    rcases k with k | k
    ·exact g2.1 k
    ·omega
  ·rcases (hm x).1 hx with k | k
   ·have:=h2 x k;omega
   ·omega
theorem AlM.start {t:List Int} (hw:∀ w ∈ t,0 ≤ w∧w ≤ 16777215) (hl:t.length ≤ 65536) (ha:0 < t.sum):AlM t t.sum (alIn t t.sum t.length):=by
 have hJ:=AlJ.all hw hl ha t.length (Nat.le_refl _)
 obtain ⟨h0,h1,h2⟩:=alIn_rest t t.sum t.length (Nat.le_refl _)
 refine ⟨fun c hc _=>⟨hJ.cut c hc,hJ.oth c hc⟩,fun j hj=>?_⟩
 rw [← sum_single hj (t.getD j 0 * t.length)]
 refine congrArg List.sum (List.map_congr_left fun c hc=>?_)
 have hc:=List.mem_range.1 hc
 obtain ⟨g1,g2⟩:=h1 c hc
 unfold shw
 by_cases e:(c:Int) ∈ (alIn t t.sum t.length).B ++ (alIn t t.sum t.length).A
 ·rw [if_pos e]
  by_cases k:c = j
  ·rw [if_pos k,if_pos k,← k];exact g1
  ·rw [if_neg k,if_neg k]
 ·rw [if_neg e,hJ.cut c hc,hJ.oth c hc]
  have:t.getD c 0 * t.length = t.sum:=Classical.byContradiction fun k=>e (g2.2 k)
  by_cases k:c = j
  ·rw [if_pos k,if_pos k,if_pos (by omega),← k];omega
  ·rw [if_neg k,if_neg k,if_neg (by omega)];omega
theorem AlM.step {t:List Int} {all:Int} {u:AlS} {i j:Int} {B A:List Int} (hI:AlI t all u) (h:AlM t all u) (hB:u.B = i :: B) (hA:u.A = j :: A):AlM t all (alStep all u i j B A):=by
 have hbi:=hI.B i (by rw [hB];simp)
 have haj:=hI.A j (by rw [hA];simp)
 have hnd:=hI.nd
 rw [hB,hA] at hnd
 obtain ⟨n1,n2,n3⟩:=List.nodup_append.1 hnd
 obtain ⟨hiB,nB⟩:=List.nodup_cons.1 n1
 obtain ⟨hjA,nA⟩:=List.nodup_cons.1 n2
 have hij:i ≠ j:=n3 i (by simp) j (by simp)
 have hiA:i ∉ A:=fun hm=>n3 i (by simp) i (by simp [hm]) rfl
 have hjB:j ∉ B:=fun hm=>n3 j (by simp [hm]) j (by simp) rfl
 have hlr:=hI.lr
 have hlc:=hI.lc
 have hlo:=hI.lo
 obtain ⟨⟨i0,i1⟩,i2,i3⟩:=hbi
 obtain ⟨⟨j0,j1⟩,j2,j3,j4⟩:=haj
 obtain ⟨a,rfl⟩ : ∃ a:Nat,i = a:=⟨i.toNat,by omega⟩
 obtain ⟨b,rfl⟩ : ∃ b:Nat,j = b:=⟨j.toNat,by omega⟩
 rw [Int.toNat_natCast] at i2 i3 j2 j3
 have hab:a ≠ b:=fun e=>hij (by rw [e])
 have ha:a < t.length:=by omega
 have hb:b < t.length:=by omega
 obtain ⟨oa1,oa2⟩:=h.op a ha (by rw [hB];simp)
 obtain ⟨ob1,ob2⟩:=h.op b hb (by rw [hA];simp)
 obtain ⟨ri,hri⟩ : ∃ ri,ri = u.rest.getD a 0:=⟨_,rfl⟩
 obtain ⟨r,hr⟩ : ∃ r,r = u.rest.getD b 0 - (all - ri):=⟨_,rfl⟩
 have hS:alStep all u a b B A = ⟨u.rest.set b r,u.cut.set a ri,u.oth.set a b,if r > all then B else if r < all then srt ((b:Int) :: B) else B,if r > all then (b:Int) :: A else A⟩:=by
  rw [hr,hri]
  rfl
 have hmem:∀ c:Nat,(c:Int) ∈ (alStep all u a b B A).B ++ (alStep all u a b B A).A ↔ (((c:Int) ∈ u.B ++ u.A∧c ≠ a∧c ≠ b)∨(c = b∧r ≠ all)):=fun c=>by
  rw [hS]
  have hcB:(c:Int) ∈ B→c ≠ a∧c ≠ b:=fun k=>⟨fun e=>hiB (by rw [← e];exact k),fun e=>hjB (by rw [← e];exact k)⟩
  have hcA:(c:Int) ∈ A→c ≠ a∧c ≠ b:=fun k=>⟨fun e=>hiA (by rw [← e];exact k),fun e=>hjA (by rw [← e];exact k)⟩
  have hu:(c:Int) ∈ u.B ++ u.A ↔ (c = a∨(c:Int) ∈ B)∨(c = b∨(c:Int) ∈ A):=by
   rw [hB,hA,List.mem_append,List.mem_cons,List.mem_cons]
   constructor
   ·rintro ((e | e) | (e | e))
    ·exact .inl (.inl (by omega))
    ·exact .inl (.inr e)
    ·exact .inr (.inl (by omega))
    ·exact .inr (.inr e)
   ·rintro ((e | e) | (e | e))
    ·exact .inl (.inl (by rw [e]))
    ·exact .inl (.inr e)
    ·exact .inr (.inl (by rw [e]))
    ·exact .inr (.inr e)
  rw [hu]
  show (c:Int) ∈ (if r > all then B else if r < all then srt ((b:Int) :: B) else B) ++ (if r > all then (b:Int) :: A else A) ↔ _
  by_cases c1:r > all
  ·rw [if_pos c1,if_pos c1,List.mem_append,List.mem_cons]
   constructor
   ·rintro (e | e | e)
    ·exact .inl ⟨.inl (.inr e),hcB e⟩
    ·exact .inr ⟨by omega,by omega⟩
    ·exact .inl ⟨.inr (.inr e),hcA e⟩
   ·rintro (⟨(e | e) | (e | e),k1,k2⟩ | ⟨e,_⟩)
    ·exact absurd e k1
    ·exact .inl e
    ·exact absurd e k2
    ·exact .inr (.inr e)
    ·exact .inr (.inl (by rw [e]))
  ·rw [if_neg c1,if_neg c1]
   by_cases c2:r < all
   ·rw [if_pos c2,List.mem_append,(srt_perm _).mem_iff,List.mem_cons]
    constructor
    ·rintro ((e | e) | e)
     ·exact .inr ⟨by omega,by omega⟩
     ·exact .inl ⟨.inl (.inr e),hcB e⟩
     ·exact .inl ⟨.inr (.inr e),hcA e⟩
    ·rintro (⟨(e | e) | (e | e),k1,k2⟩ | ⟨e,_⟩)
     ·exact absurd e k1
     ·exact .inl (.inr e)
     ·exact absurd e k2
     ·exact .inr e
     ·exact .inl (.inl (by rw [e]))
   ·rw [if_neg c2,List.mem_append]
    constructor
    ·rintro (e | e)
     ·exact .inl ⟨.inl (.inr e),hcB e⟩
     ·exact .inl ⟨.inr (.inr e),hcA e⟩
    ·rintro (⟨(e | e) | (e | e),k1,k2⟩ | ⟨_,e⟩)
     ·exact absurd e k1
     ·exact .inl e
     ·exact absurd e k2
     ·exact .inr e
     ·omega
 have hc1:∀ c:Nat,(alStep all u a b B A).cut.getD c 0 = if a = c then ri else u.cut.getD c 0:=fun c=>by rw [hS];exact getD_set _ _ _ _ (by omega)
 have hc2:∀ c:Nat,(alStep all u a b B A).oth.getD c 0 = if a = c then (b:Int) else u.oth.getD c 0:=fun c=>by rw [hS];exact getD_set _ _ _ _ (by omega)
 have hc3:∀ c:Nat,(alStep all u a b B A).rest.getD c 0 = if b = c then r else u.rest.getD c 0:=fun c=>by rw [hS];exact getD_set _ _ _ _ (by omega)
 refine ⟨fun c hc hm=>?_,fun J hJ=>?_⟩
 ·rw [hc1,hc2]
  rcases (hmem c).1 hm with ⟨k1,k2,k3⟩ | ⟨k1,k2⟩
  ·rw [if_neg (fun e=>k2 e.symm),if_neg (fun e=>k2 e.symm)];exact h.op c hc k1
  ·subst k1
   rw [if_neg hab,if_neg hab];exact ⟨ob1,ob2⟩
 ·rw [sum_at2 (f:=fun c=>shw all (alStep all u a b B A) c J) (g:=fun c=>shw all u c J) ha hb hab (fun c hc k1 k2=>?_),h.mass J hJ]
  ·have e1:shw all (alStep all u a b B A) a J = (if a = J then ri else 0) + (if (b:Int) = J then all - ri else 0):=by
    unfold shw
    rw [if_neg (fun k=>by rcases (hmem a).1 k with k | k;exact k.2.1 rfl;exact hab k.1),hc1,hc2,if_pos rfl,if_pos rfl]
   have e2:shw all u a J = if a = J then ri else 0:=by
    unfold shw
    rw [if_pos (by rw [hB];simp),hri]
   have e3:shw all u b J = if b = J then u.rest.getD b 0 else 0:=by
    unfold shw
    rw [if_pos (by rw [hA];simp)]
   have e4:shw all (alStep all u a b B A) b J = if b = J then r else 0:=by
    unfold shw
    by_cases k:r = all
    ·rw [if_neg (fun q=>by rcases (hmem b).1 q with q | q;exact q.2.2 rfl;exact q.2 k),hc1,hc2,if_neg hab,if_neg hab,ob1,ob2]
     by_cases q:b = J
     ·rw [if_pos q,if_pos q,if_pos (by omega)];omega
     ·rw [if_neg q,if_neg q,if_neg (by omega)];omega
    ·rw [if_pos ((hmem b).2 (.inr ⟨rfl,k⟩)),hc3,if_pos rfl]
   rw [e1,e2,e3,e4]
   by_cases q:b = J
   ·rw [if_pos q,if_pos q,if_pos (show (b:Int) = J by omega)];omega
   ·rw [if_neg q,if_neg q,if_neg (show ¬ (b:Int) = J by omega)];omega
  ·show shw all (alStep all u a b B A) c J = shw all u c J
   have q1:=(hc1 c).trans (if_neg (fun e=>k1 e.symm))
   have q2:=(hc2 c).trans (if_neg (fun e=>k1 e.symm))
   have q3:=(hc3 c).trans (if_neg (fun e=>k2 e.symm))
   unfold shw
   rw [q1,q2,q3]
   by_cases q:(c:Int) ∈ u.B ++ u.A
   ·rw [if_pos q,if_pos ((hmem c).2 (.inl ⟨q,k1,k2⟩))]
   ·rw [if_neg q,if_neg (fun p=>by rcases (hmem c).1 p with p | p;exact q p.1;exact k2 p.1)]
theorem AlM.end {t:List Int} {all:Int} (ha:0 < all∧all ≤ 1099511627776) (m:Nat):∀ u,alMu u ≤ m→AlI t all u→AlM t all u→AlM t all (alEnd all u):=by
 induction m with
 | zero=>
  intro u hm h k
  have hB:u.B = []:=List.eq_nil_of_length_eq_zero (by unfold alMu at hm;omega)
  rw [alEnd_stop hB];exact k
 | succ m ih=>
  intro u hm h k
  cases hB:u.B with
  | nil=>rw [alEnd_stop hB];exact k
  | cons i B=>
   cases hA:u.A with
   | nil=>exact absurd hA (h.more (by rw [hB];simp))
   | cons j A=>
    rw [alEnd_step hB hA]
    have:=alStep_mu (all:=all) hB hA
    exact ih _ (by omega) (h.step ha hB hA) (AlM.step h k hB hA)
theorem alF_share {t:List Int} (hw:∀ w ∈ t,0 ≤ w∧w ≤ 16777215) (hl:1 ≤ t.length∧t.length ≤ 65536) (ha:0 < t.sum) (J:Nat) (hJ:J < t.length) :
  ((List.range t.length).map fun c=>(if c = J then (alF t).cut.getD c 0 else 0) + (if (alF t).oth.getD c 0 = J then t.sum - (alF t).cut.getD c 0 else 0)).sum = t.getD J 0 * t.length∧∀ c,c < t.length→0 ≤ (alF t).cut.getD c 0∧(alF t).cut.getD c 0 ≤ t.sum:=by
 have hs:=sum_bound hw
 have hall:0 < t.sum∧t.sum ≤ 1099511627776:=by omega
 have hI0:=(AlJ.all hw hl.2 ha t.length (Nat.le_refl _)).done ha
 obtain ⟨hI,hB⟩:=AlI.end hall _ _ (Nat.le_refl _) hI0
 have hM:=AlM.end hall _ _ (Nat.le_refl _) hI0 (AlM.start hw hl.2 ha)
 change AlI t t.sum (alF t) at hI
 change AlM t t.sum (alF t) at hM
 change (alF t).B = [] at hB
 have hA:(alF t).A = []:=Classical.byContradiction fun k=>by
  have h1:=sum_pos (l:=(alF t).A) (f:=fun j=>(alF t).rest.getD j.toNat 0 - t.sum) (fun j hj=>by have:=(hI.A j hj).2.1;omega) k
  have h2:=hI.sum
  rw [hB] at h2
  simp only [List.map_nil,List.sum_nil] at h2
  omega
 refine ⟨?_,hI.cut⟩
 rw [← hM.mass J hJ]
 refine congrArg List.sum (List.map_congr_left fun c hc=>?_)
 unfold shw
 exact (if_neg (show ¬ (c:Int) ∈ (alF t).B ++ (alF t).A by rw [hA,hB];simp)).symm
end Go.Art
