/- Texts put together: Qc Rp Ma Ya Yb Yc Yd Ye Yf KPick KSame KCopy KOver K StopA StopB StopC StopD StopE Yg Yi Yk Mc Sp Vd Nq Nr Ns Nt Ia Qp Fa. Conditions: none. -/
import Derived.Test.YtpabbhpgikdhfaaGreatWNc
set_option linter.unusedSimpArgs false
set_option linter.unusedVariables false
namespace Go.Art
open Go Go.Proofs Go.RowKit
def fall (n:Nat):Nat→Nat
 | 0=>1
 | k + 1=>fall n k * (n - k)
def chs:Nat→Nat→Nat
 | _,0=>1
 | 0,_ + 1=>0
 | n + 1,k + 1=>chs n k + chs n (k + 1)
theorem chs_zero (n:Nat):chs n 0 = 1:=by cases n <;> rfl
theorem chs_succ (n k:Nat):chs (n + 1) (k + 1) = chs n k + chs n (k + 1):=rfl
theorem chs_over:∀ {n k:Nat},n < k→chs n k = 0
 | 0,k + 1,_=>rfl
 | n + 1,k + 1,h=>by rw [chs_succ,chs_over (by omega),chs_over (by omega)]
theorem chs_self:∀ n:Nat,chs n n = 1
 | 0=>rfl
 | n + 1=>by rw [chs_succ,chs_self n,chs_over (by omega)]
theorem chs_next:∀ (n k:Nat),chs n (k + 1) * (k + 1) = chs n k * (n - k)
 | 0,0=>rfl
 | 0,k + 1=>by simp [chs]
 | n + 1,0=>by
  rw [chs_succ,chs_zero,chs_zero]
  have:=chs_next n 0
  rw [chs_zero] at this
  omega
 | n + 1,k + 1=>by
  have h1:=chs_next n k
  have h2:=chs_next n (k + 1)
  rw [chs_succ n (k + 1),chs_succ n k]
  rcases Nat.lt_or_ge k n with h | h
  ·obtain ⟨m,rfl⟩ : ∃ m,n = k + 1 + m:=⟨n - (k + 1),by omega⟩
   have e1:k + 1 + m - k = m + 1:=by omega
   have e2:k + 1 + m - (k + 1) = m:=by omega
   have e3:k + 1 + m + 1 - (k + 1) = m + 1:=by omega
   rw [e1] at h1
   rw [e2] at h2
   rw [e3]
   generalize chs (k + 1 + m) k = a at *
   generalize chs (k + 1 + m) (k + 1) = b at *
   generalize chs (k + 1 + m) (k + 1 + 1) = c at *
   rw [Nat.add_mul,h2,Nat.add_mul,← h1]
   simp only [Nat.mul_add,Nat.mul_one]
   omega
  ·rw [chs_over (k:=k + 1) (by omega),chs_over (k:=k + 1 + 1) (by omega),show n + 1 - (k + 1) = 0 by omega]
   simp
theorem chs_symm:∀ {n k:Nat},k ≤ n→chs n (n - k) = chs n k
 | 0,k,h=>by
  obtain rfl:k = 0:=(by omega)
  rfl
 | n + 1,0,_=>by rw [Nat.sub_zero,chs_self,chs_zero]
 | n + 1,k + 1,h=>by
  rcases Nat.lt_or_ge k n with h1 | h1
  ·rw [show n + 1 - (k + 1) = (n - (k + 1)) + 1 by omega,chs_succ,chs_succ,chs_symm (n:=n) (k:=k + 1) (by omega),show n - (k + 1) + 1 = n - k by omega,chs_symm (n:=n) (k:=k) (by omega)]
   omega
  ·obtain rfl:k = n:=by omega
   rw [show k + 1 - (k + 1) = 0 by omega,chs_zero,chs_self]
theorem chs_pos {n k:Nat} (h:k ≤ n):chs n k ≠ 0:=by
 induction n generalizing k with
 | zero=>
  obtain rfl:k = 0:=(by omega)
  exact Nat.one_ne_zero
 | succ n ih=>
  cases k with
  | zero=>rw [chs_zero];exact Nat.one_ne_zero
  | succ k=>rw [chs_succ];have:=ih (k:=k) (by omega);omega
theorem chs_le (n k:Nat):chs n k ≤ 2 ^ n:=by
 induction n generalizing k with
 | zero=>cases k <;> simp [chs]
 | succ n ih=>
  cases k with
  | zero=>rw [chs_zero];exact Nat.one_le_two_pow
  | succ k=>rw [chs_succ,Nat.pow_succ];have:=ih k;have:=ih (k + 1);omega
theorem chs_len (n k:Nat):(dg (chs n k)).length ≤ n + 1:=(dg_len _ _).2 (by
 refine Nat.lt_of_le_of_lt (chs_le n k) (Nat.lt_of_lt_of_le (Nat.pow_lt_pow_right (a:=2) (by decide) (Nat.lt_succ_self n)) (Nat.pow_le_pow_left (by decide) _))
)
theorem chs_step {n i:Nat}:chs n i * (n - i) / (i + 1) = chs n (i + 1):=by
 rw [← chs_next,Nat.mul_div_cancel _ (by omega)]
attribute [local irreducible] Fit pt own ro vw mpc lpt vels rels mow lrc dfr
abbrev eNat (u:Value) (D:List Ch) (m:Nat) (e:Int):Prop:=∃ o,u = tup2 o (I e)∧o.oneCell' = true∧D = [own T64 o (Us (dg m))]
theorem Choose_tr (n k:Nat) (hn:n ≤ 65536) (hk:k ≤ n):Tr Tryz.prog 137 [I n,I k] [] [] fun u D=>eNat u D (chs n k) 0:=by
 obtain ⟨m,hm⟩ : ∃ m,m = min k (n - k):=⟨_,rfl⟩
 have hcm:chs n m = chs n k:=by
  rw [hm]
  rcases Nat.le_total k (n - k) with h | h
  ·rw [Nat.min_eq_left h]
  ·rw [Nat.min_eq_right h,chs_symm hk]
 have hmn:m ≤ n:=by omega
 have hmi:min (k:Int) ((n:Int) - k) = (m:Int):=by omega
 rw [← hcm]
 clear hcm
 refine Tr.enter env _ Tryz.func137 (by kernel_rfl) rfl Tryz.ntmps137 rfl (by repeat (first | exact has00 | refine has01 ?_)) fun w0=>?_
 repeat' first|(refine gca ?_;first|(refine ca (Of_tr 1 (by decide)) ?_;rintro o _ ⟨ho,rfl⟩))|(refine mnn ?_;rw [hmi])|(refine wo ?_;first|(refine ao ?_;first|refine aw ?_|refine oa ?_)|refine oa ?_|refine gy ?_)|(refine gc ?_;first|(refine ci (fun hB=>?_) (fun hB=>?_) <;> try (exfalso;omega)))|refine sq ?_|refine rg ?_|refine xc ?_|refine nl ?_|refine sk ?_|refine bk ?_
 clear hmi hm
 refine TC.loop (ι:=Nat × Value) (fun g=>[(7,I ((g.1:Int) + 1)),(6,g.2),(8,I ((n:Int) - g.1)),(9,I ((m:Int) - g.1))]) (fun g=>[own T64 g.2 (Us (dg (chs n g.1)))]) (fun g=>g.1 ≤ m∧g.2.oneCell' = true) (fun g=>m - g.1) (0,o) [] ⟨Nat.zero_le _,ho⟩ ?_ (hf:=by dsimp only;rw [chs_zero];exact fitA) (hs:=by dsimp only;simp only [Int.natCast_zero,Int.sub_zero,Int.zero_add];(repeat (refine Sub.cons rfl (by first | rfl | go_num) ?_));exact Sub.nil)
 rintro ⟨i,v⟩ ⟨hi,hv⟩
 dsimp only at hi hv ⊢
 by_cases hlt:i < m
 ·have hG:=NGrow_tr v (dg (chs n i)) (n - i) (Dg_dg _) (by omega) (by have:=chs_len n i;omega)
  have hl1:(dg (chs n i * (n - i))).length ≤ n + 2:=by
   have h1:=(dg_len _ _).1 (chs_len n i)
   exact (dg_len _ _).2 (by rw [Nat.pow_succ];exact Nat.mul_lt_mul_of_lt_of_le h1 (by omega) (by decide))
  have hP:=fun v=>Part_tr v (dg (chs n i * (n - i))) (i + 1) (Dg_dg _) (by omega) (by omega) (by omega)
  simp only [nv_dg,chs_step] at hG hP
  repeat' first|(refine gca ?_;first|(refine ca hG ?_;rintro v2 _ ⟨hv2,rfl⟩)|(refine ca (hP v2) ?_;rintro _ _ ⟨v3,rfl,hv3,rfl⟩))|(refine ntu (m:=(n:Int) - i) ?_;rw [show ((n:Int) - i).toNat = n - i by omega])|(refine ntu (m:=(i:Int) + 1) ?_;rw [show ((i:Int) + 1).toNat = i + 1 by omega])|(refine wo ?_;first|(refine ao ?_;first|refine aw ?_|refine oa ?_)|refine oa ?_)|(refine gc ?_;first|(refine ci (fun hB=>?_) (fun hB=>?_) <;> try (exfalso;omega)))|refine sq ?_|refine rg ?_|refine xc ?_|refine nl ?_|refine sk ?_|refine bk ?_|refine xb ?_
  exact lp (i + 1,v3) ⟨hlt,hv3⟩ (hs:=by dsimp only;(repeat (refine Sub.cons rfl (by first | rfl | go_num) ?_));exact Sub.nil)
 ·obtain rfl:i = m:=by omega
  repeat' first|(refine wo ?_;first|(refine ao ?_;first|refine oa ?_)|refine oa ?_)|(refine gc ?_;first|(refine ci (fun hB=>?_) (fun hB=>?_) <;> try (exfalso;omega)))|refine sq ?_|refine rg ?_|refine xc ?_|refine nl ?_|refine xe ?_|refine rt ?_
  exact r2 ⟨v,rfl,hv,rfl⟩
end Go.Art
namespace Go.Art
open Go Go.Proofs Go.RowKit
def rowsW (tot:Int) (cut oth:List Int) (k:Int):List (List Int) × Int:=
 if rwE tot cut oth k = 0 then (if 4096 < (allL tot cut oth k.toNat).length then ([],4) else (allL tot cut oth k.toNat,0)) else ([],rwE tot cut oth k)
abbrev TLL:TypeId:=56
abbrev TEr:TypeId:=27
structure RwsG where
 v:Value
 hs:List Value
 i:Nat
 st:Bool
attribute [local irreducible] Fit pt own ro vw mpc lpt vels rels mow lrc dfr
attribute [local irreducible] lmp lme mit velg relg bnd owl dfrl allL rwE
end Go.Art
namespace Go.Art
open Go Go.Proofs Go.RowKit
def risL:Nat→Nat→Nat→List Int→List (List Int)
 | 0,_,_,b=>[b]
 | d + 1,f,k,b=>(List.range (k - d - f)).flatMap fun j:Nat=>risL d (f + j + 1) k (b ++ [((f + j:Nat):Int)])
def risR:Nat→Nat→Nat→List (List Int)
 | 0,_,_=>[[]]
 | d + 1,f,k=>(List.range (k - f)).flatMap fun j:Nat=>(risR d (f + j + 1) k).map fun l=>((f + j:Nat):Int) :: l
theorem fm_nil {α:Type} (g:Nat→List α) (n:Nat) (h:∀ j,j < n→g j = []):(List.range n).flatMap g = []:=by
 induction n with
 | zero=>rfl
 | succ n ih=>rw [fm_succ,ih (fun j hj=>h j (by omega)),h n (by omega)];rfl
theorem fm_cut {α:Type} (g:Nat→List α) {n m:Nat} (hm:m ≤ n) (h:∀ j,m ≤ j→j < n→g j = []):(List.range n).flatMap g = (List.range m).flatMap g:=by
 obtain ⟨q,rfl⟩:=Nat.exists_eq_add_of_le hm
 induction q with
 | zero=>rfl
 | succ q ih=>rw [← Nat.add_assoc,fm_succ,ih (by omega) (fun j h1 h2=>h j h1 (by omega)),h (m + q) (by omega) (by omega),List.append_nil]
theorem risR_nil:∀ (d f k:Nat),1 ≤ d→k < f + d→risR d f k = []
 | 0,_,_,h,_=>absurd h (by decide)
 | d + 1,f,k,_,h=>by
  refine fm_nil _ _ fun j hj=>?_
  cases d with
  | zero=>omega
  | succ d=>rw [risR_nil (d + 1) (f + j + 1) k (by omega) (by omega)];rfl
theorem risL_pre:∀ (d f k:Nat) (b:List Int),risL d f k b = (risR d f k).map (b ++ ·)
 | 0,f,k,b=>by simp [risL,risR]
 | d + 1,f,k,b=>by
  have h1:(List.range (k - f)).flatMap (fun j:Nat=>(risR d (f + j + 1) k).map fun l=>((f + j:Nat):Int) :: l) = (List.range (k - d - f)).flatMap (fun j:Nat=>(risR d (f + j + 1) k).map fun l=>((f + j:Nat):Int) :: l):=by
   refine fm_cut _ (by omega) fun j h1 h2=>?_
   cases d with
   | zero=>omega
   | succ d=>rw [risR_nil (d + 1) (f + j + 1) k (by omega) (by omega)];rfl
  show (List.range (k - d - f)).flatMap (fun j:Nat=>risL d (f + j + 1) k (b ++ [((f + j:Nat):Int)])) = ((List.range (k - f)).flatMap (fun j:Nat=>(risR d (f + j + 1) k).map fun l=>((f + j:Nat):Int) :: l)).map (b ++ ·)
  rw [h1,List.map_flatMap]
  refine congrArg (fun g=>(List.range (k - d - f)).flatMap g) (funext fun j=>?_)
  rw [risL_pre d (f + j + 1) k,List.map_map]
  refine List.map_congr_left fun l _=>?_
  simp
theorem risL_nil (d f k:Nat):risL d f k [] = risR d f k:=by rw [risL_pre];simp
theorem risR_len:∀ (d f k:Nat),(risR d f k).length = chs (k - f) d
 | 0,f,k=>by cases hk:k - f <;> rfl
 | d + 1,f,k=>by
  have key:∀ n f,k - f = n→(risR (d + 1) f k).length = chs n (d + 1):=by
   intro n
   induction n with
   | zero=>
    intro f hf
    show ((List.range (k - f)).flatMap _).length = _
    rw [hf];rfl
   | succ n ih=>
    intro f hf
    have h1:=ih (f + 1) (by omega)
    have h2:risR (d + 1) f k = (risR d (f + 1) k).map (fun l=>((f:Nat):Int) :: l) ++ risR (d + 1) (f + 1) k:=by
     show (List.range (k - f)).flatMap (fun j:Nat=>(risR d (f + j + 1) k).map fun l=>((f + j:Nat):Int) :: l) = _
     rw [hf,List.range_succ_eq_map,List.flatMap_cons,List.flatMap_map]
     congr 1
     show _ = (List.range (k - (f + 1))).flatMap (fun j:Nat=>(risR d (f + 1 + j + 1) k).map fun l=>((f + 1 + j:Nat):Int) :: l)
     rw [show k - (f + 1) = n by omega]
     refine congrArg (fun g=>(List.range n).flatMap g) (funext fun j=>?_)
     rw [show f + (j + 1) = f + 1 + j by omega]
    rw [h2,List.length_append,List.length_map,h1,risR_len d (f + 1) k,show k - (f + 1) = n by omega]
    rfl
  exact key _ f rfl
theorem risR_mem:∀ (d f k:Nat) (l:List Int),l ∈ risR d f k→l.length = d∧∀ x ∈ l,(f:Int) ≤ x∧x < k
 | 0,f,k,l,h=>by rw [List.mem_singleton.1 h];exact ⟨rfl,fun x hx=>nomatch hx⟩
 | d + 1,f,k,l,h=>by
  obtain ⟨j,hj,h1⟩:=List.mem_flatMap.1 h
  obtain ⟨m,hm,rfl⟩:=List.mem_map.1 h1
  obtain ⟨g1,g2⟩:=risR_mem d (f + j + 1) k m hm
  have hj:=List.mem_range.1 hj
  refine ⟨by simp [g1],fun x hx=>?_⟩
  rcases List.mem_cons.1 hx with rfl | hx
  ·omega
  ·have:=g2 x hx;omega
def setP (t:List Int) (k n:Nat):List (List Int):=(List.range n).flatMap fun i:Nat=>if t.getD i 0 = 0 then [] else risR (i + 1) 0 k
def setsW (t:List Int) (k:Int):List (List Int) × Int:=
 if solE t k = 0 then (if 4096 < (setP t k.toNat t.length).length then ([],4) else (setP t k.toNat t.length,0)) else ([],13)
theorem setP_mem {t:List Int} {k n:Nat} {l:List Int} (h:l ∈ setP t k n):1 ≤ l.length∧l.length ≤ n∧t.getD (l.length - 1) 0 ≠ 0∧l ∈ risR l.length 0 k:=by
 obtain ⟨i,hi,h1⟩:=List.mem_flatMap.1 h
 have hi:=List.mem_range.1 hi
 by_cases e:t.getD i 0 = 0
 ·rw [if_pos e] at h1;cases h1
 ·rw [if_neg e] at h1
  have h2:=(risR_mem _ _ _ _ h1).1
  rw [h2]
  exact ⟨by omega,by omega,e,h1⟩
open Go Go.Proofs Go.RowKit
/-! Sums of fractions. -/
def sR {α:Type} (f:α→Rat):List α→Rat
 | []=>0
 | a :: l=>f a + sR f l
section
variable {α β:Type}
theorem sR_app (f:α→Rat):∀ l m:List α,sR f (l ++ m) = sR f l + sR f m
 | [],m=>by simp [sR,Rat.zero_add]
 | a :: l,m=>by simp only [List.cons_append,sR,sR_app f l m,Rat.add_assoc]
theorem sR_congr {f g:α→Rat}:∀ {l:List α},(∀ x ∈ l,f x = g x)→sR f l = sR g l
 | [],_=>rfl
 | a :: l,h=>by simp only [sR];rw [h a (by simp),sR_congr fun x hx=>h x (by simp [hx])]
theorem sR_add (f g:α→Rat):∀ l:List α,sR (fun x=>f x + g x) l = sR f l + sR g l
 | []=>by simp only [sR];grind
 | a :: l=>by simp only [sR,sR_add f g l];grind
theorem sR_mul (c:Rat) (f:α→Rat):∀ l:List α,sR (fun x=>c * f x) l = c * sR f l
 | []=>by simp only [sR];grind
 | a :: l=>by simp only [sR,sR_mul c f l];grind
theorem sR_zero:∀ l:List α,sR (fun _=>0) l = 0
 | []=>rfl
 | a :: l=>by simp only [sR,sR_zero l];grind
theorem sR_const (c:Rat):∀ l:List α,sR (fun _=>c) l = (l.length:Rat) * c
 | []=>by simp [sR,Rat.zero_mul]
 | a :: l=>by simp only [sR,sR_const c l,List.length_cons];push_cast;grind
theorem sR_comm (f:α→β→Rat) (m:List β):∀ l:List α,sR (fun x=>sR (f x) m) l = sR (fun y=>sR (fun x=>f x y) l) m
 | []=>by simp only [sR,sR_zero]
 | a :: l=>by simp only [sR];rw [sR_comm f m l,sR_add]
theorem sR_filter (f:α→Rat) (p:α→Bool):∀ l:List α,sR f l = sR f (l.filter p) + sR f (l.filter fun x=>!p x)
 | []=>by simp only [sR,List.filter_nil];grind
 | a :: l=>by
  have:=sR_filter f p l
  simp only [sR,List.filter_cons]
  cases p a <;> simp [sR] <;> grind
theorem sR_map (f:β→Rat) (g:α→β):∀ l:List α,sR f (l.map g) = sR (fun x=>f (g x)) l
 | []=>rfl
 | a :: l=>by simp only [List.map_cons,sR,sR_map f g l]
/-! Binomial sums. -/
def bsum:Nat→(Nat→Rat)→Rat
 | 0,f=>f 0
 | c + 1,f=>bsum c f + bsum c fun a=>f (a + 1)
theorem bsum_congr:∀ {c:Nat} {f g:Nat→Rat},(∀ a,a ≤ c→f a = g a)→bsum c f = bsum c g
 | 0,_,_,h=>h 0 (Nat.le_refl _)
 | c + 1,f,g,h=>by simp only [bsum];rw [bsum_congr fun a ha=>h a (by omega),bsum_congr (f:=fun a=>f (a + 1)) fun a ha=>h (a + 1) (by omega)]
theorem bsum_mul (k:Rat):∀ (c:Nat) (f:Nat→Rat),bsum c (fun a=>k * f a) = k * bsum c f
 | 0,f=>rfl
 | c + 1,f=>by simp only [bsum];rw [bsum_mul k c f,bsum_mul k c fun a=>f (a + 1)];grind
theorem bsum_add:∀ (c:Nat) (f g:Nat→Rat),bsum c (fun a=>f a + g a) = bsum c f + bsum c g
 | 0,f,g=>rfl
 | c + 1,f,g=>by simp only [bsum];rw [bsum_add c f g,bsum_add c (fun a=>f (a + 1)) fun a=>g (a + 1)];grind
theorem bsum_zero:∀ c,bsum c (fun _=>0) = 0
 | 0=>rfl
 | c + 1=>by simp only [bsum];rw [bsum_zero c];grind
theorem bsum_sR (f:α→Nat→Rat) (c:Nat):∀ l:List α,sR (fun x=>bsum c (f x)) l = bsum c fun a=>sR (fun x=>f x a) l
 | []=>by simp only [sR,bsum_zero]
 | a :: l=>by simp only [sR];rw [bsum_sR f c l,bsum_add]
theorem bsum_comm:∀ (c d:Nat) (f:Nat→Nat→Rat),bsum c (fun a=>bsum d (f a)) = bsum d fun b=>bsum c fun a=>f a b
 | 0,d,f=>rfl
 | c + 1,d,f=>by simp only [bsum];rw [bsum_comm c d f,bsum_comm c d fun a=>f (a + 1),bsum_add]
theorem bsum_pow (x y:Rat):∀ c,bsum c (fun a=>x ^ a * y ^ (c - a)) = (x + y) ^ c
 | 0=>by simp [bsum,Rat.pow_zero,Rat.mul_one]
 | c + 1=>by
  simp only [bsum]
  rw [bsum_congr (g:=fun a=>y * (x ^ a * y ^ (c - a))) fun a ha=>by rw [show c + 1 - a = c - a + 1 by omega,Rat.pow_succ];grind]
  rw [bsum_congr (f:=fun a=>x ^ (a + 1) * y ^ (c + 1 - (a + 1))) (g:=fun a=>x * (x ^ a * y ^ (c - a))) fun a ha=>by rw [Nat.add_sub_add_right,Rat.pow_succ];grind]
  rw [bsum_mul,bsum_mul,bsum_pow x y c,Rat.pow_succ];grind
/-! The mass of tuples. -/
def tG (L:List (β × Rat)):Nat→(List β→Rat)→Rat
 | 0,F=>F []
 | n + 1,F=>sR (fun s=>s.2 * tG L n fun l=>F (s.1 :: l)) L
theorem tG_congr {L:List (β × Rat)}:∀ {n:Nat} {F G:List β→Rat},(∀ l,l.length = n→(∀ x ∈ l,∃ w,(x,w) ∈ L)→F l = G l)→tG L n F = tG L n G
 | 0,F,G,h=>h [] rfl (by simp)
 | n + 1,F,G,h=>sR_congr fun s hs=>by
  rw [tG_congr (F:=fun l=>F (s.1 :: l)) (G:=fun l=>G (s.1 :: l)) fun l hl hx=>h _ (by simp [hl]) fun x hm=>by
   rcases List.mem_cons.1 hm with rfl | hm
   ·exact ⟨s.2,hs⟩
   ·exact hx x hm]
theorem tG_mul (L:List (β × Rat)) (c:Rat):∀ (n:Nat) (F:List β→Rat),tG L n (fun l=>c * F l) = c * tG L n F
 | 0,F=>rfl
 | n + 1,F=>by
  simp only [tG]
  rw [← sR_mul]
  exact sR_congr fun s _=>by rw [tG_mul L c n fun l=>F (s.1 :: l)];grind
theorem tG_add (L:List (β × Rat)):∀ (n:Nat) (F G:List β→Rat),tG L n (fun l=>F l + G l) = tG L n F + tG L n G
 | 0,F,G=>rfl
 | n + 1,F,G=>by
  simp only [tG]
  rw [← sR_add]
  exact sR_congr fun s _=>by rw [tG_add L n (fun l=>F (s.1 :: l)) fun l=>G (s.1 :: l)];grind
theorem tG_zero (L:List (β × Rat)):∀ n,tG L n (fun _=>0) = 0
 | 0=>rfl
 | n + 1=>by
  simp only [tG,tG_zero L n]
  rw [sR_congr (g:=fun _=>0) fun s _=>by grind,sR_zero]
theorem tG_sR (L:List (β × Rat)) (n:Nat) (F:α→List β→Rat):∀ M:List α,tG L n (fun l=>sR (fun s=>F s l) M) = sR (fun s=>tG L n (F s)) M
 | []=>by simp only [sR];exact tG_zero L n
 | a :: M=>by simp only [sR];rw [tG_add,tG_sR L n F M]
theorem tG_bsum (L:List (β × Rat)) (n:Nat):∀ (c:Nat) (F:Nat→List β→Rat),tG L n (fun l=>bsum c fun a=>F a l) = bsum c fun a=>tG L n (F a)
 | 0,F=>rfl
 | c + 1,F=>by simp only [bsum];rw [tG_add,tG_bsum L n c F,tG_bsum L n c fun a=>F (a + 1)]
theorem tG_const (L:List (β × Rat)) (c:Rat):∀ n,tG L n (fun _=>c) = (sR (·.2) L) ^ n * c
 | 0=>by simp [tG,Rat.pow_zero,Rat.one_mul]
 | n + 1=>by
  simp only [tG,tG_const L c n]
  rw [sR_congr (g:=fun s=>(sR (·.2) L ^ n * c) * s.2) fun s _=>by grind,sR_mul,Rat.pow_succ]
  grind
theorem tG_null {L:List (β × Rat)} {p:β→Bool}:∀ {n:Nat} {G:List β→Rat} (_:∀ l m,l.Perm m→G l = G m) (_:∀ s ∈ L,p s.1 = true→∀ l,G (s.1 :: l) = G l),
  tG L n G = bsum n fun b=>sR (·.2) (L.filter fun s=>p s.1) ^ b * tG (L.filter fun s=>!p s.1) (n - b) G
 | 0,G,_,_=>by simp [tG,bsum,Rat.pow_zero,Rat.one_mul]
 | n + 1,G,h1,h2=>by
  have ih:=fun (x:β)=>tG_null (L:=L) (p:=p) (n:=n) (G:=fun l=>G (x :: l)) (fun l m h=>h1 _ _ (h.cons x)) (fun s hs hp l=>by rw [h1 _ _ (List.Perm.swap s.1 x l),h2 s hs hp])
  have ih0:=tG_null (L:=L) (p:=p) (n:=n) h1 h2
  simp only [tG,bsum]
  rw [sR_filter _ fun s=>p s.1]
  have e1:sR (fun s=>s.2 * tG L n fun l=>G (s.1 :: l)) (L.filter fun s=>p s.1) = sR (·.2) (L.filter fun s=>p s.1) * tG L n G:=by
   rw [sR_congr (g:=fun s=>tG L n G * s.2) fun s hs=>?_,sR_mul,Rat.mul_comm]
   have hs:=List.mem_filter.1 hs
   rw [tG_congr fun l _ _=>h2 s hs.1 hs.2 l];grind
  have e2:sR (fun s=>s.2 * tG L n fun l=>G (s.1 :: l)) (L.filter fun s=>!p s.1) = bsum n fun b=>sR (·.2) (L.filter fun s=>p s.1) ^ b * tG (L.filter fun s=>!p s.1) (n + 1 - b) G:=by
   rw [sR_congr fun s _=>by rw [ih s.1,← bsum_mul],bsum_sR]
   refine bsum_congr fun b hb=>?_
   rw [show n + 1 - b = n - b + 1 by omega]
   simp only [tG]
   rw [← sR_mul]
   exact sR_congr fun s _=>by grind
  rw [e1,e2,ih0,← bsum_mul,Rat.add_comm]
  congr 1
  refine bsum_congr fun b hb=>?_
  rw [Rat.pow_succ,Nat.add_sub_add_right];grind
theorem tG_conv {L M:List (β × Rat)} {p:β→Bool} {φ:β→β} {P:Rat} (hM:∀ g:β→Rat,sR (fun s=>s.2 * g (φ s.1)) (L.filter fun s=>p s.1) = P * sR (fun t=>t.2 * g t.1) M) :
  ∀ {c m:Nat} {G:List β→Rat} (_:∀ l m,l.Perm m→G l = G m) (_:∀ s ∈ L,p s.1 = true→∀ l,G (s.1 :: l) = G (φ s.1 :: l)),
  tG L c (fun x=>tG M m fun y=>G (y ++ x)) = bsum c fun a=>P ^ a * tG (L.filter fun s=>!p s.1) (c - a) fun x=>tG M (m + a) fun y=>G (y ++ x)
 | 0,m,G,_,_=>by simp [tG,bsum,Rat.pow_zero,Rat.one_mul]
 | c + 1,m,G,h1,h2=>by
  have ih:=fun (x:β)=>tG_conv hM (c:=c) (m:=m) (G:=fun l=>G (x :: l)) (fun l m h=>h1 _ _ (h.cons x)) (fun s hs hp l=>by rw [h1 _ _ (List.Perm.swap s.1 x l),h2 s hs hp,h1 _ _ (List.Perm.swap x (φ s.1) l)])
  have ih0:=tG_conv hM (c:=c) (m:=m + 1) h1 h2
  have em:∀ (s:β) (x y:List β),G (y ++ s :: x) = G (s :: (y ++ x)):=fun s x y=>h1 _ _ List.perm_middle
  simp only [bsum]
  have e0:tG L (c + 1) (fun x=>tG M m fun y=>G (y ++ x)) = sR (fun s=>s.2 * tG L c fun x=>tG M m fun y=>G (s.1 :: (y ++ x))) L:=by
   simp only [tG,em]
  have e1:sR (fun s=>s.2 * tG L c fun x=>tG M m fun y=>G (s.1 :: (y ++ x))) (L.filter fun s=>p s.1) = P * tG L c fun x=>tG M (m + 1) fun y=>G (y ++ x):=by
   have k1:sR (fun s=>s.2 * tG L c fun x=>tG M m fun y=>G (s.1 :: (y ++ x))) (L.filter fun s=>p s.1) = sR (fun s=>s.2 * (fun t=>tG L c fun x=>tG M m fun y=>G (t :: (y ++ x))) (φ s.1)) (L.filter fun s=>p s.1):=sR_congr fun s hs=>by
    have hs:=List.mem_filter.1 hs
    simp only [h2 s hs.1 hs.2]
   rw [k1,hM fun t=>tG L c fun x=>tG M m fun y=>G (t :: (y ++ x))]
   congr 1
   have k2:(fun x=>tG M (m + 1) fun y=>G (y ++ x)) = fun x=>sR (fun t=>(fun x=>t.2 * tG M m fun y=>G (t.1 :: (y ++ x))) x) M:=funext fun x=>by simp only [tG,List.cons_append]
   rw [k2,tG_sR]
   exact sR_congr fun t _=>by rw [tG_mul]
  have e2:sR (fun s=>s.2 * tG L c fun x=>tG M m fun y=>G (s.1 :: (y ++ x))) (L.filter fun s=>!p s.1) = bsum c fun a=>P ^ a * tG (L.filter fun s=>!p s.1) (c + 1 - a) fun x=>tG M (m + a) fun y=>G (y ++ x):=by
   rw [sR_congr fun s _=>by rw [ih s.1,← bsum_mul],bsum_sR]
   refine bsum_congr fun a ha=>?_
   rw [show c + 1 - a = c - a + 1 by omega]
   simp only [tG,em]
   rw [← sR_mul]
   exact sR_congr fun s _=>by grind
  rw [e0,sR_filter _ fun s=>p s.1,e1,e2,ih0,← bsum_mul,Rat.add_comm]
  congr 1
  refine bsum_congr fun a ha=>?_
  rw [Rat.pow_succ,Nat.add_sub_add_right,show m + 1 + a = m + (a + 1) by omega];grind
end
end Go.Art
namespace Go.Art
open Go Go.Proofs Go.RowKit
/-! What is stuck in the end, set by set. -/
def cU (U l:List Int):Nat:=(l.filter fun x=>U.contains x).length
structure Core (k:Nat) (X:List (List Int)) (φ:Nat→Rat) (F:List Int→List (List Int)→Rat):Prop where
 perm:∀ U l m,l.Perm m→F U l = F U m
 none:∀ U l ls,cU U l = 0→F U (l :: ls) = F U ls
 one:∀ U l ls s,(l ∈ X∨l = [s])→s ∈ U→U.Nodup→(∀ x,x ∈ l∧x ∈ U ↔ x = s)→F U (l :: ls) = F (U.erase s) ls
 stuck:∀ U ls,U.Nodup→U.length ≤ k→(∀ l ∈ ls,l ∈ X∧2 ≤ cU U l)→F U ls = φ U.length
def clo (X:List (List Int × Rat)) (U:List Int):List (List Int × Rat):=X.filter fun s=>decide (2 ≤ cU U s.1)
def sym (U:List Int):List (List Int × Rat):=U.map fun t=>([t],1)
structure Even (k:Nat) (X:List (List Int × Rat)) (Q P:Nat→Rat):Prop where
 nd:∀ s ∈ X,s.1.Nodup
 cloud:∀ U:List Int,U.Pairwise (· < ·)→(∀ x ∈ U,0 ≤ x∧x < k)→sR (·.2) (clo X U) = Q U.length
 two:∀ U:List Int,U.Pairwise (· < ·)→(∀ x ∈ U,0 ≤ x∧x < k)→∀ s ∈ U,∀ g:List Int→Rat,sR (fun S=>S.2 * g (S.1.filter fun x=>(U.erase s).contains x)) (X.filter fun S=>decide (cU U S.1 = 2) && S.1.contains s) = P U.length * sR (fun t=>g [t]) (U.erase s)
def vB (φ:Nat→Rat) (f:Nat→Rat):Nat→Nat→Nat→Rat
 | 0,_,_=>φ 0
 | u + 1,_,0=>φ (u + 1)
 | u + 1,c,r + 1=>bsum c fun a=>bsum r fun b=>(f (u + 1) ^ a * (1 - f (u + 1)) ^ (c - a)) * ((1 / ((u + 1:Nat):Rat)) ^ b * (1 - 1 / ((u + 1:Nat):Rat)) ^ (r - b)) * vB φ f u (c - a) (r - b + a)
theorem sorted_nd {U:List Int} (h:U.Pairwise (· < ·)):U.Nodup:=h.imp fun h=>Int.ne_of_lt h
theorem cU_erase {U l:List Int} {s:Int} (hU:U.Nodup) (hs:s ∈ U) (hl:l.Nodup):cU U l = cU (U.erase s) l + if s ∈ l then 1 else 0:=by
 unfold cU
 induction l with
 | nil=>rfl
 | cons x l ih=>
  obtain ⟨h1,h2⟩:=List.nodup_cons.1 hl
  have ih:=ih h2
  have hm:(U.erase s).contains x = (U.contains x && decide (x ≠ s)):=by
   rw [Bool.eq_iff_iff]
   simp [hU.mem_erase_iff,and_comm]
  rw [List.filter_cons,List.filter_cons,hm]
  by_cases e:x = s
  ·subst e
   simp [hs,h1] at ih ⊢
   exact ih
  ·have e2:s ∈ x :: l ↔ s ∈ l:=by simp [Ne.symm e]
   simp only [e2]
   rw [show decide (x ≠ s) = true from decide_eq_true e,Bool.and_true]
   by_cases hc:U.contains x = true
   ·rw [if_pos hc,if_pos hc,List.length_cons,List.length_cons,ih];omega
   ·rw [if_neg hc,if_neg hc,ih]
theorem one_powR:∀ n:Nat,(1:Rat) ^ n = 1
 | 0=>Rat.pow_zero _
 | n + 1=>by rw [Rat.pow_succ,one_powR n,Rat.one_mul]
theorem pow_mulR (a b:Rat):∀ n:Nat,(a * b) ^ n = a ^ n * b ^ n
 | 0=>by simp [Rat.pow_zero]
 | n + 1=>by rw [Rat.pow_succ,Rat.pow_succ,Rat.pow_succ,pow_mulR a b n];grind
theorem pow_addR (a:Rat) (m:Nat):∀ n:Nat,a ^ (m + n) = a ^ m * a ^ n
 | 0=>by simp [Rat.pow_zero,Rat.mul_one]
 | n + 1=>by rw [← Nat.add_assoc,Rat.pow_succ,Rat.pow_succ,pow_addR a m n];grind
theorem sym_erase {U:List Int} (hU:U.Nodup) {s:Int}:(sym U).filter (fun t=>!(decide (t.1 = [s]))) = sym (U.erase s):=by
 unfold sym
 rw [List.filter_map,hU.erase_eq_filter]
 congr 1
 refine List.filter_congr fun x _=>?_
 by_cases e:x = s <;> simp [e]
theorem sym_one {U:List Int} (hU:U.Nodup) {s:Int} (hs:s ∈ U):sR (·.2) ((sym U).filter fun t=>decide (t.1 = [s])) = 1:=by
 unfold sym
 rw [List.filter_map]
 have:U.filter ((fun t:List Int × Rat=>decide (t.1 = [s])) ∘ fun t=>([t],1)) = [s]:=by
  rw [show ((fun t:List Int × Rat=>decide (t.1 = [s])) ∘ fun t=>([t],1)) = fun x=>x == s from funext fun x=>by by_cases e:x = s <;> simp [e]]
  rw [List.filter_beq,hU.count,if_pos hs];rfl
 rw [this]
 simp [sR,Rat.add_zero]
theorem core_rec {k:Nat} {X:List (List Int × Rat)} {φ:Nat→Rat} {F:List Int→List (List Int)→Rat} {Q P f:Nat→Rat} (hF:Core k (X.map (·.1)) φ F) (hE:Even k X Q P)
  (hf1:∀ u,u < k→Q (u + 1) * f (u + 1) = (u:Rat) * P (u + 1)) (hf2:∀ u,u < k→Q (u + 1) * (1 - f (u + 1)) = Q u) :
  ∀ u U c r,U.length = u→u ≤ k→U.Pairwise (· < ·)→(∀ x ∈ U,0 ≤ x∧x < (k:Int))→tG (clo X U) c (fun x=>tG (sym U) r fun y=>F U (y ++ x)) = Q u ^ c * (u:Rat) ^ r * vB φ f u c r:=by
 have hstk:∀ u U c,U.length = u→u ≤ k→U.Pairwise (· < ·)→(∀ x ∈ U,0 ≤ x∧x < (k:Int))→tG (clo X U) c (fun x=>F U x) = Q u ^ c * φ u:=by
  intro u U c hu hk hn hin
  rw [tG_congr (G:=fun _=>φ u) fun l hl hx=>?_,tG_const,hE.cloud U hn hin,hu]
  rw [hF.stuck U l (sorted_nd hn) (by omega) fun s hs=>?_,hu]
  obtain ⟨w,hw⟩:=hx s hs
  have:=List.mem_filter.1 hw
  exact ⟨List.mem_map.2 ⟨_,this.1,rfl⟩,by simpa using this.2⟩
 intro u
 induction u with
 | zero=>
  intro U c r hu hk hn hin
  cases r with
  | zero=>
   simp only [tG,List.nil_append]
   rw [hstk 0 U c hu hk hn hin,vB,Rat.pow_zero,Rat.mul_one]
  | succ r=>
   obtain rfl:U = []:=List.eq_nil_of_length_eq_zero hu
   simp only [tG,sym,List.map_nil,sR]
   rw [tG_zero,Rat.pow_succ,show ((0:Nat):Rat) = 0 from rfl];grind
 | succ u ih=>
  intro U c r hu hk hso hin
  have hn:=sorted_nd hso
  cases r with
  | zero=>
   simp only [tG,List.nil_append]
   rw [hstk (u + 1) U c hu hk hso hin,vB,Rat.pow_zero,Rat.mul_one]
  | succ r=>
   have e1:∀ s ∈ U,tG (clo X U) c (fun x=>tG (sym U) r fun y=>F U ([s] :: (y ++ x))) = bsum r fun b=>bsum c fun a=>P (u + 1) ^ a * (Q u ^ (c - a) * (u:Rat) ^ (r - b + a) * vB φ f u (c - a) (r - b + a)):=by
    intro s hs
    have hn':(U.erase s).Nodup:=hn.erase s
    have hl':(U.erase s).length = u:=by rw [List.length_erase_of_mem hs,hu];rfl
    have hin':∀ x ∈ U.erase s,0 ≤ x∧x < (k:Int):=fun x hx=>hin x (List.mem_of_mem_erase hx)
    have hns:∀ x,x ∈ U.erase s→x ≠ s:=fun x hx=>(hn.mem_erase_iff.1 hx).1
    have k1:∀ x y:List (List Int),F U ([s] :: (y ++ x)) = F (U.erase s) (y ++ x):=fun x y=>hF.one U [s] _ s (.inr rfl) hs hn fun z=>by
     constructor
     ·rintro ⟨h,_⟩;simpa using h
     ·rintro rfl;simp [hs]
    simp only [k1]
    have k2:∀ x:List (List Int),tG (sym U) r (fun y=>F (U.erase s) (y ++ x)) = bsum r fun b=>tG (sym (U.erase s)) (r - b) fun y=>F (U.erase s) (y ++ x):=fun x=>by
     rw [tG_null (p:=fun t=>decide (t = [s])) (G:=fun y=>F (U.erase s) (y ++ x)) (fun l m h=>hF.perm _ _ _ (h.append_right x)) fun t ht hp l=>?_]
     ·rw [sym_one hn hs,sym_erase hn]
      exact bsum_congr fun b _=>by rw [show (1:Rat) ^ b = 1 from one_powR b,Rat.one_mul]
     ·rw [of_decide_eq_true hp]
      exact hF.none _ _ _ (by unfold cU;simp [hn.mem_erase_iff])
    simp only [k2]
    rw [tG_bsum]
    refine bsum_congr fun b _=>?_
    have hcl:∀ S ∈ X,cU U S.1 = cU (U.erase s) S.1 + if s ∈ S.1 then 1 else 0:=fun S hS=>cU_erase hn hs (hE.nd S hS)
    have k3:(clo X U).filter (fun S=>!(decide (cU U S.1 = 2) && S.1.contains s)) = clo X (U.erase s):=by
     unfold clo
     rw [List.filter_filter]
     refine List.filter_congr fun S hS=>?_
     have h1:=hcl S hS
     rw [Bool.eq_iff_iff]
     simp only [Bool.and_eq_true,Bool.not_eq_true',Bool.and_eq_false_iff,decide_eq_true_eq,decide_eq_false_iff_not]
     by_cases hm:s ∈ S.1
     ·simp only [hm,if_true] at h1
      simp [hm];omega
     ·simp only [hm,if_false] at h1
      simp [hm];omega
    have k4:(clo X U).filter (fun S=>decide (cU U S.1 = 2) && S.1.contains s) = X.filter fun S=>decide (cU U S.1 = 2) && S.1.contains s:=by
     unfold clo
     rw [List.filter_filter]
     refine List.filter_congr fun S hS=>?_
     rw [Bool.eq_iff_iff]
     simp only [Bool.and_eq_true,decide_eq_true_eq]
     constructor
     ·rintro ⟨h1,h2⟩;exact h1
     ·rintro h1;exact ⟨h1,by omega⟩
    rw [tG_conv (L:=clo X U) (M:=sym (U.erase s)) (p:=fun l=>decide (cU U l = 2) && l.contains s) (φ:=fun l=>l.filter fun x=>(U.erase s).contains x) (P:=P (u + 1)) (fun g=>?_) (fun l m h=>hF.perm _ _ _ h) fun S hS hp l=>?_]
    ·rw [k3]
     refine bsum_congr fun a _=>?_
     rw [ih (U.erase s) (c - a) (r - b + a) hl' (by omega) (hso.sublist List.erase_sublist) hin']
    ·rw [k4,hE.two U hso hin s hs g,hu]
     unfold sym
     rw [sR_map]
     simp only [Rat.one_mul]
    ·have hS:=(List.mem_filter.1 hS).1
     have h1:=hcl S hS
     simp only [Bool.and_eq_true,decide_eq_true_eq] at hp
     have hm:s ∈ S.1:=by simpa using hp.2
     rw [if_pos hm,hp.1] at h1
     have h3:(S.1.filter fun x=>(U.erase s).contains x).length = 1:=by unfold cU at h1;omega
     obtain ⟨t,ht⟩:=List.length_eq_one_iff.1 h3
     have hmt:∀ x,x ∈ S.1∧x ∈ U.erase s ↔ x = t:=fun x=>by
      have:x ∈ S.1.filter (fun x=>(U.erase s).contains x) ↔ x = t:=by rw [ht];simp
      rw [← this,List.mem_filter];simp
     have htU:=((hmt t).2 rfl).2
     simp only [ht]
     rw [hF.one _ _ l t (.inl (List.mem_map.2 ⟨S,hS,rfl⟩)) htU hn' hmt,hF.one _ [t] l t (.inr rfl) htU hn' fun z=>?_]
     constructor
     ·rintro ⟨h,_⟩;simpa using h
     ·rintro rfl;simp [htU]
   have e2:tG (clo X U) c (fun x=>tG (sym U) (r + 1) fun y=>F U (y ++ x)) = sR (fun s=>tG (clo X U) c fun x=>tG (sym U) r fun y=>F U ([s] :: (y ++ x))) U:=by
    rw [← tG_sR]
    exact tG_congr fun x _ _=>(sR_map _ _ U).trans (sR_congr fun t _=>Rat.one_mul _)
   rw [e2,sR_congr e1,sR_const,hu]
   simp only [vB]
   rw [bsum_comm,← bsum_mul,← bsum_mul]
   refine bsum_congr fun a ha=>?_
   rw [← bsum_mul,← bsum_mul]
   refine bsum_congr fun b hb=>?_
   have h0:((u + 1:Nat):Rat) ≠ 0:=by
    intro h
    have:((u + 1:Nat):Rat) = ((0:Nat):Rat):=h
    have:=Rat.natCast_inj.1 this
    omega
   have hg1:((u + 1:Nat):Rat) * (1 / ((u + 1:Nat):Rat)) = 1:=by grind
   have hg2:((u + 1:Nat):Rat) * (1 - 1 / ((u + 1:Nat):Rat)) = (u:Rat):=by
    have:((u + 1:Nat):Rat) = (u:Rat) + 1:=by push_cast;rfl
    grind
   have q1:=hf1 u (by omega)
   have q2:=hf2 u (by omega)
   generalize ((u + 1:Nat):Rat) = N at *
   have p1:Q (u + 1) ^ c = Q (u + 1) ^ a * Q (u + 1) ^ (c - a):=by rw [← pow_addR];congr 1;omega
   have p2:N ^ (r + 1) = N * (N ^ b * N ^ (r - b)):=by rw [Rat.pow_succ,← pow_addR,show b + (r - b) = r by omega,Rat.mul_comm]
   have p3:(u:Rat) ^ (r - b + a) = (u:Rat) ^ (r - b) * (u:Rat) ^ a:=pow_addR _ _ _
   have p4:Q (u + 1) ^ a * f (u + 1) ^ a = (u:Rat) ^ a * P (u + 1) ^ a:=by rw [← pow_mulR,← pow_mulR,q1]
   have p5:Q (u + 1) ^ (c - a) * (1 - f (u + 1)) ^ (c - a) = Q u ^ (c - a):=by rw [← pow_mulR,q2]
   have p6:N ^ b * (1 / N) ^ b = 1:=by rw [← pow_mulR,hg1];exact one_powR b
   have p7:N ^ (r - b) * (1 - 1 / N) ^ (r - b) = (u:Rat) ^ (r - b):=by rw [← pow_mulR,hg2]
   rw [p1,p2,p3]
   generalize vB φ f u (c - a) (r - b + a) = V
   generalize f (u + 1) ^ a = fa at *
   generalize (1 - f (u + 1)) ^ (c - a) = fb at *
   generalize (1 / N) ^ b = ga at *
   generalize (1 - 1 / N) ^ (r - b) = gb at *
   generalize N ^ b = Na at *
   generalize N ^ (r - b) = Nb at *
   rw [← p5,← p7]
   have:N * (P (u + 1) ^ a * (Q (u + 1) ^ (c - a) * fb * (Nb * gb * (u:Rat) ^ a) * V)) = N * ((u:Rat) ^ a * P (u + 1) ^ a) * (Q (u + 1) ^ (c - a) * fb) * (Nb * gb) * V:=by grind
   rw [this,← p4]
   have:Q (u + 1) ^ a * Q (u + 1) ^ (c - a) * (N * (Na * Nb)) * (fa * fb * (ga * gb) * V) = N * (Q (u + 1) ^ a * fa) * (Q (u + 1) ^ (c - a) * fb) * (Nb * gb) * V * (Na * ga):=by grind
   rw [this,p6,Rat.mul_one]
open Go Go.Proofs Go.RowKit
/-! The recursion, forward, place by place. -/
def addAt (l:List Rat) (j:Nat) (x:Rat):List Rat:=l.set j (l.getD j 0 + x)
def shar (p:Rat) (m s:Nat):Rat:=(chs m s:Rat) * p ^ s * (1 - p) ^ (m - s)
def inR (n:Nat) (f g y:Rat) (c r:Nat) (l:List Rat):List Rat:=
 (List.range (c + 1)).foldl (fun l a=>if shar f c a = 0 then l else (List.range r).foldl (fun l b=>addAt l ((c - a) * (n + 1) + (r - 1 - b + a)) (y * shar f c a * shar g (r - 1) b)) l) l
def nextR (f g:Rat) (n:Nat) (x:List Rat):List Rat:=
 (List.range ((n + 1) * (n + 1))).foldl (fun l i=>if i % (n + 1) = 0∨x.getD i 0 = 0 then l else inR n f g (x.getD i 0) (i / (n + 1)) (i % (n + 1)) l) (List.replicate ((n + 1) * (n + 1)) 0)
def firstR (p:Rat) (n:Nat):List Rat:=(List.range (n + 1)).foldl (fun l r=>l.set ((n - r) * (n + 1) + r) (shar p n r)) (List.replicate ((n + 1) * (n + 1)) 0)
def dotF (n:Nat) (v:Nat→Nat→Rat) (x:List Rat) (i:Nat):Rat:=x.getD i 0 * v (i / (n + 1)) (i % (n + 1))
def dot (n:Nat) (v:Nat→Nat→Rat) (x:List Rat):Rat:=sR (dotF n v x) (List.range ((n + 1) * (n + 1)))
theorem sR_set {f g:Nat→Rat} {N j:Nat} (hj:j < N) (d:Rat) (h:∀ i,i < N→g i = f i + if i = j then d else 0):sR g (List.range N) = sR f (List.range N) + d:=by
 have key:∀ M,M ≤ N→sR g (List.range M) = sR f (List.range M) + if j < M then d else 0:=by
  intro M
  induction M with
  | zero=>intro _;simp only [List.range_zero,sR,Nat.not_lt_zero,if_false];grind
  | succ M ih=>
   intro hM
   rw [List.range_succ,sR_app,sR_app,ih (by omega)]
   simp only [sR]
   rw [h M (by omega)]
   by_cases e:M = j
   ·subst e;rw [if_pos rfl,if_neg (by omega),if_pos (by omega)];grind
   ·by_cases e2:j < M
    ·rw [if_neg e,if_pos e2,if_pos (by omega)];grind
    ·rw [if_neg e,if_neg e2,if_neg (by omega)];grind
 rw [key N (Nat.le_refl _),if_pos hj]
theorem getD_setR (l:List Rat) (i j:Nat) (x:Rat) (hj:j < l.length):(l.set j x).getD i 0 = if i = j then x else l.getD i 0:=by
 simp only [List.getD_eq_getElem?_getD,List.getElem?_set]
 by_cases e:i = j
 ·subst e;simp [hj]
 ·rw [if_neg (fun h=>e h.symm),if_neg e]
theorem dot_set {n:Nat} {v:Nat→Nat→Rat} {x:List Rat} (hx:x.length = (n + 1) * (n + 1)) {j:Nat} (hj:j < (n + 1) * (n + 1)) (y:Rat):dot n v (x.set j y) = dot n v x + (y - x.getD j 0) * v (j / (n + 1)) (j % (n + 1)):=by
 unfold dot
 refine sR_set hj _ fun i hi=>?_
 unfold dotF
 rw [getD_setR _ _ _ _ (by omega)]
 by_cases e:i = j
 ·subst e;rw [if_pos rfl,if_pos rfl];grind
 ·rw [if_neg e,if_neg e];grind
theorem dot_addAt {n:Nat} {v:Nat→Nat→Rat} {x:List Rat} (hx:x.length = (n + 1) * (n + 1)) {j:Nat} (hj:j < (n + 1) * (n + 1)) (y:Rat):dot n v (addAt x j y) = dot n v x + y * v (j / (n + 1)) (j % (n + 1)):=by
 unfold addAt;rw [dot_set hx hj];grind
theorem addAt_len (l:List Rat) (j:Nat) (x:Rat):(addAt l j x).length = l.length:=by simp [addAt]
theorem getD_repl (N i:Nat):(List.replicate N (0:Rat)).getD i 0 = 0:=by
 rw [List.getD_eq_getElem?_getD,List.getElem?_replicate];split <;> rfl
theorem dot_zero (n N:Nat) (v:Nat→Nat→Rat):dot n v (List.replicate N 0) = 0:=by
 unfold dot
 rw [sR_congr (g:=fun _=>0) fun i _=>?_,sR_zero]
 unfold dotF;rw [getD_repl,Rat.zero_mul]
theorem foldl_dot {α:Type} {n:Nat} {v:Nat→Nat→Rat} {st:List Rat→α→List Rat} {h:α→Rat}:∀ {M:List α} (_:∀ a ∈ M,∀ l:List Rat,l.length = (n + 1) * (n + 1)→(st l a).length = (n + 1) * (n + 1)∧dot n v (st l a) = dot n v l + h a) (l:List Rat),
  l.length = (n + 1) * (n + 1)→(M.foldl st l).length = (n + 1) * (n + 1)∧dot n v (M.foldl st l) = dot n v l + sR h M
 | [],_,l,hl=>⟨hl,by simp only [List.foldl_nil,sR];grind⟩
 | a :: M,H,l,hl=>by
  obtain ⟨h1,h2⟩:=H a (by simp) l hl
  obtain ⟨h3,h4⟩:=foldl_dot (M:=M) (fun b hb=>H b (by simp [hb])) (st l a) h1
  exact ⟨h3,by rw [List.foldl_cons,h4,h2];simp only [sR];grind⟩
theorem sR_shift (f:Nat→Rat) (N:Nat):sR f (List.range (N + 1)) = f 0 + sR (fun a=>f (a + 1)) (List.range N):=by
 rw [List.range_succ_eq_map];simp only [sR];rw [sR_map]
theorem sR_last (f:Nat→Rat) (N:Nat):sR f (List.range (N + 1)) = sR f (List.range N) + f N:=by
 rw [List.range_succ,sR_app];simp only [sR];grind
theorem bsum_chs:∀ (c:Nat) (h:Nat→Rat),sR (fun a=>(chs c a:Rat) * h a) (List.range (c + 1)) = bsum c h
 | 0,h=>by simp only [List.range_succ,List.range_zero,List.nil_append,sR,bsum,chs_zero];push_cast;grind
 | c + 1,h=>by
  have h1:=bsum_chs c h
  have h2:=bsum_chs c fun a=>h (a + 1)
  rw [sR_shift] at h1 ⊢
  simp only [bsum]
  rw [← h1,← h2,sR_congr (f:=fun a=>(chs (c + 1) (a + 1):Rat) * h (a + 1)) (g:=fun a=>(chs c a:Rat) * h (a + 1) + (chs c (a + 1):Rat) * h (a + 1)) fun a _=>by rw [chs_succ];push_cast;grind]
  rw [sR_add,sR_last (fun a=>(chs c (a + 1):Rat) * h (a + 1)),chs_over (n:=c) (k:=c + 1) (by omega),chs_zero,chs_zero]
  simp only [show ((0:Nat):Rat) = 0 from rfl]
  grind
theorem bsum_shar (p:Rat) (c:Nat) (h:Nat→Rat):sR (fun a=>shar p c a * h a) (List.range (c + 1)) = bsum c fun a=>p ^ a * (1 - p) ^ (c - a) * h a:=by
 rw [← bsum_chs]
 exact sR_congr fun a _=>by unfold shar;grind
theorem place_div {n q r:Nat} (h:r < n + 1):(q * (n + 1) + r) / (n + 1) = q∧(q * (n + 1) + r) % (n + 1) = r:=by
 constructor
 ·rw [Nat.mul_comm,Nat.mul_add_div (by omega),Nat.div_eq_of_lt h,Nat.add_zero]
 ·rw [Nat.mul_comm,Nat.mul_add_mod,Nat.mod_eq_of_lt h]
theorem place_lt {n q r:Nat} (hq:q ≤ n) (h:r ≤ n):q * (n + 1) + r < (n + 1) * (n + 1):=by
 have:=Nat.mul_le_mul_right (n + 1) hq
 rw [Nat.add_mul];omega
theorem inR_dot {n c r:Nat} {v:Nat→Nat→Rat} {f g y:Rat} {l:List Rat} (hl:l.length = (n + 1) * (n + 1)) (hcr:c + r ≤ n) (hr:1 ≤ r):(inR n f g y c r l).length = (n + 1) * (n + 1) ∧
  dot n v (inR n f g y c r l) = dot n v l + y * bsum c fun a=>bsum (r - 1) fun b=>(f ^ a * (1 - f) ^ (c - a)) * (g ^ b * (1 - g) ^ (r - 1 - b)) * v (c - a) (r - 1 - b + a):=by
 have hin:∀ a,a ∈ List.range (c + 1)→∀ l:List Rat,l.length = (n + 1) * (n + 1)→((List.range r).foldl (fun l b=>addAt l ((c - a) * (n + 1) + (r - 1 - b + a)) (y * shar f c a * shar g (r - 1) b)) l).length = (n + 1) * (n + 1) ∧
   dot n v ((List.range r).foldl (fun l b=>addAt l ((c - a) * (n + 1) + (r - 1 - b + a)) (y * shar f c a * shar g (r - 1) b)) l) = dot n v l + sR (fun b=>y * shar f c a * shar g (r - 1) b * v (c - a) (r - 1 - b + a)) (List.range r):=by
  intro a ha l hl
  have ha:=List.mem_range.1 ha
  refine foldl_dot (fun b hb l hl=>?_) l hl
  have hb:=List.mem_range.1 hb
  obtain ⟨k1,k2⟩:=place_div (n:=n) (q:=c - a) (r:=r - 1 - b + a) (by omega)
  have:=dot_addAt (v:=v) hl (place_lt (n:=n) (q:=c - a) (r:=r - 1 - b + a) (by omega) (by omega)) (y * shar f c a * shar g (r - 1) b)
  rw [k1,k2] at this
  exact ⟨by rw [addAt_len,hl],this⟩
 unfold inR
 obtain ⟨h1,h2⟩:=foldl_dot (n:=n) (v:=v) (h:=fun a=>sR (fun b=>y * shar f c a * shar g (r - 1) b * v (c - a) (r - 1 - b + a)) (List.range r)) (M:=List.range (c + 1)) (st:=fun l a=>if shar f c a = 0 then l else (List.range r).foldl (fun l b=>addAt l ((c - a) * (n + 1) + (r - 1 - b + a)) (y * shar f c a * shar g (r - 1) b)) l) (fun a ha l hl=>by
  by_cases e:shar f c a = 0
  ·rw [if_pos e]
   refine ⟨hl,?_⟩
   rw [sR_congr (g:=fun _=>0) fun b _=>by rw [e];grind,sR_zero];grind
  ·rw [if_neg e];exact hin a ha l hl) l hl
 refine ⟨h1,?_⟩
 rw [h2]
 congr 1
 rw [← bsum_mul]
 have e1:=bsum_shar f c fun a=>y * bsum (r - 1) fun b=>g ^ b * (1 - g) ^ (r - 1 - b) * v (c - a) (r - 1 - b + a)
 rw [bsum_congr (g:=fun a=>f ^ a * (1 - f) ^ (c - a) * (y * bsum (r - 1) fun b=>g ^ b * (1 - g) ^ (r - 1 - b) * v (c - a) (r - 1 - b + a))) fun a _=>by
  rw [← bsum_mul,← bsum_mul,← bsum_mul]
  exact bsum_congr fun b _=>by grind]
 rw [← e1]
 refine sR_congr fun a _=>?_
 rw [← bsum_mul,← bsum_mul]
 have e2:=bsum_shar g (r - 1) fun b=>shar f c a * (y * v (c - a) (r - 1 - b + a))
 rw [show r - 1 + 1 = r by omega] at e2
 rw [bsum_congr (g:=fun b=>g ^ b * (1 - g) ^ (r - 1 - b) * (shar f c a * (y * v (c - a) (r - 1 - b + a)))) fun b _=>by grind,← e2]
 exact sR_congr fun b _=>by grind
open Go Go.Proofs Go.RowKit
structure Supp (n:Nat) (l:List Rat):Prop where
 len:l.length = (n + 1) * (n + 1)
 z:∀ i,i < (n + 1) * (n + 1)→n < i / (n + 1) + i % (n + 1)→l.getD i 0 = 0
theorem supp_zero (n:Nat):Supp n (List.replicate ((n + 1) * (n + 1)) 0):=⟨by simp,fun i _ _=>getD_repl _ i⟩
theorem supp_set {n q r:Nat} {l:List Rat} (h:Supp n l) (hq:q + r ≤ n) (y:Rat):Supp n (l.set (q * (n + 1) + r) y):=by
 refine ⟨by rw [List.length_set,h.len],fun i hi hn=>?_⟩
 rw [getD_setR _ _ _ _ (by rw [h.len];exact place_lt (by omega) (by omega))]
 by_cases e:i = q * (n + 1) + r
 ·obtain ⟨k1,k2⟩:=place_div (n:=n) (q:=q) (r:=r) (by omega)
  rw [e,k1,k2] at hn;omega
 ·rw [if_neg e];exact h.z i hi hn
theorem foldl_inv {α β:Type} (p:β→Prop) {st:β→α→β}:∀ {M:List α} {l:β},(∀ a ∈ M,∀ l,p l→p (st l a))→p l→p (M.foldl st l)
 | [],_,_,h=>h
 | a :: M,l,H,h=>foldl_inv p (M:=M) (fun b hb=>H b (by simp [hb])) (H a (by simp) l h)
theorem supp_in {n c r:Nat} {f g y:Rat} {l:List Rat} (h:Supp n l) (hcr:c + r ≤ n) (hr:1 ≤ r):Supp n (inR n f g y c r l):=by
 unfold inR
 refine foldl_inv (Supp n) (fun a ha l h=>?_) h
 have ha:=List.mem_range.1 ha
 split
 ·exact h
 ·refine foldl_inv (Supp n) (fun b hb l h=>?_) h
  have hb:=List.mem_range.1 hb
  exact supp_set h (by omega) _
theorem supp_next {n:Nat} {f g:Rat} {x:List Rat} (hx:Supp n x):Supp n (nextR f g n x):=by
 unfold nextR
 refine foldl_inv (Supp n) (fun i hi l h=>?_) (supp_zero n)
 have hi:=List.mem_range.1 hi
 split
 ·exact h
 ·rename_i e
  refine supp_in h ?_ (by omega)
  rcases Nat.lt_or_ge n (i / (n + 1) + i % (n + 1)) with h1 | h1
  ·exact absurd (.inr (hx.z i hi h1)) e
  ·exact h1
theorem supp_first (p:Rat) (n:Nat):Supp n (firstR p n):=by
 unfold firstR
 refine foldl_inv (Supp n) (fun r hr l h=>?_) (supp_zero n)
 exact supp_set h (by have:=List.mem_range.1 hr;omega) _
theorem next_dot {n:Nat} {v:Nat→Nat→Rat} {f g:Rat} {x:List Rat} (hx:Supp n x) :
  dot n v (nextR f g n x) = sR (fun i=>if i % (n + 1) = 0 then 0 else x.getD i 0 * bsum (i / (n + 1)) fun a=>bsum (i % (n + 1) - 1) fun b=>(f ^ a * (1 - f) ^ (i / (n + 1) - a)) * (g ^ b * (1 - g) ^ (i % (n + 1) - 1 - b)) * v (i / (n + 1) - a) (i % (n + 1) - 1 - b + a)) (List.range ((n + 1) * (n + 1))):=by
 unfold nextR
 refine (foldl_dot (n:=n) (v:=v) (M:=List.range ((n + 1) * (n + 1))) (st:=fun l i=>if i % (n + 1) = 0∨x.getD i 0 = 0 then l else inR n f g (x.getD i 0) (i / (n + 1)) (i % (n + 1)) l)
  (h:=fun i=>if i % (n + 1) = 0 then 0 else x.getD i 0 * bsum (i / (n + 1)) fun a=>bsum (i % (n + 1) - 1) fun b=>(f ^ a * (1 - f) ^ (i / (n + 1) - a)) * (g ^ b * (1 - g) ^ (i % (n + 1) - 1 - b)) * v (i / (n + 1) - a) (i % (n + 1) - 1 - b + a)) (fun i hi l hl=>?_) (List.replicate ((n + 1) * (n + 1)) 0) (by simp)).2.trans ?_
 ·have hi:=List.mem_range.1 hi
  by_cases e1:i % (n + 1) = 0
  ·rw [if_pos (.inl e1),if_pos e1];exact ⟨hl,by grind⟩
  ·rw [if_neg e1]
   by_cases e2:x.getD i 0 = 0
   ·rw [if_pos (.inr e2),e2];exact ⟨hl,by grind⟩
   ·rw [if_neg (by rintro (h | h);exact e1 h;exact e2 h)]
    refine inR_dot hl ?_ (by omega)
    rcases Nat.lt_or_ge n (i / (n + 1) + i % (n + 1)) with h1 | h1
    ·exact absurd (hx.z i hi h1) e2
    ·exact h1
 ·rw [dot_zero,Rat.zero_add]
theorem first_dot (p:Rat) (n:Nat) (v:Nat→Nat→Rat):dot n v (firstR p n) = bsum n fun r=>p ^ r * (1 - p) ^ (n - r) * v (n - r) r:=by
 rw [← bsum_shar]
 have key:∀ m,m ≤ n + 1→((List.range m).foldl (fun l r=>l.set ((n - r) * (n + 1) + r) (shar p n r)) (List.replicate ((n + 1) * (n + 1)) 0)).length = (n + 1) * (n + 1) ∧
   (∀ r,m ≤ r→r ≤ n→((List.range m).foldl (fun l r=>l.set ((n - r) * (n + 1) + r) (shar p n r)) (List.replicate ((n + 1) * (n + 1)) 0)).getD ((n - r) * (n + 1) + r) 0 = 0) ∧
   dot n v ((List.range m).foldl (fun l r=>l.set ((n - r) * (n + 1) + r) (shar p n r)) (List.replicate ((n + 1) * (n + 1)) 0)) = sR (fun r=>shar p n r * v (n - r) r) (List.range m):=by
  intro m
  induction m with
  | zero=>intro _;exact ⟨by simp,fun r _ _=>getD_repl _ _,by simp only [List.range_zero,List.foldl_nil,sR];exact dot_zero _ _ _⟩
  | succ m ih=>
   intro hm
   obtain ⟨h1,h2,h3⟩:=ih (by omega)
   obtain ⟨k1,k2⟩:=place_div (n:=n) (q:=n - m) (r:=m) (by omega)
   have hlt:=place_lt (n:=n) (q:=n - m) (r:=m) (by omega) (by omega)
   rw [List.range_succ,List.foldl_append,List.foldl_cons,List.foldl_nil,sR_app]
   refine ⟨by rw [List.length_set,h1],fun r hr1 hr2=>?_,?_⟩
   ·rw [getD_setR _ _ _ _ (by rw [h1];exact hlt),if_neg,h2 r (by omega) hr2]
    intro e
    obtain ⟨_,k4⟩:=place_div (n:=n) (q:=n - r) (r:=r) (by omega)
    rw [e,k2] at k4;omega
   ·rw [dot_set h1 hlt,h3,h2 m (Nat.le_refl _) (by omega),k1,k2]
    simp only [sR];grind
 exact (key (n + 1) (Nat.le_refl _)).2.2
def lvR (p:Rat) (f:Nat→Rat) (n k:Nat):Nat→List Rat
 | 0=>firstR p n
 | j + 1=>nextR (f (k - j)) (1 / ((k - j:Nat):Rat)) n (lvR p f n k j)
def stuckR (n u:Nat) (x:List Rat):Rat:=sR (fun i=>if u = 0∨i % (n + 1) = 0 then x.getD i 0 else 0) (List.range ((n + 1) * (n + 1)))
theorem supp_lv (p:Rat) (f:Nat→Rat) (n k:Nat):∀ j,Supp n (lvR p f n k j)
 | 0=>supp_first p n
 | j + 1=>supp_next (supp_lv p f n k j)
theorem step_dot {n u:Nat} (φ f:Nat→Rat) {x:List Rat} (hx:Supp n x):dot n (vB φ f (u + 1)) x = φ (u + 1) * stuckR n (u + 1) x + dot n (vB φ f u) (nextR (f (u + 1)) (1 / ((u + 1:Nat):Rat)) n x):=by
 rw [next_dot hx]
 unfold dot stuckR
 rw [← sR_mul,← sR_add]
 refine sR_congr fun i _=>?_
 unfold dotF
 by_cases e:i % (n + 1) = 0
 ·rw [if_pos (.inr e),if_pos e,e,vB];grind
 ·rw [if_neg (by omega),if_neg e]
  obtain ⟨r,hr⟩ : ∃ r,i % (n + 1) = r + 1:=⟨i % (n + 1) - 1,by omega⟩
  rw [hr,vB,Nat.add_sub_cancel];grind
theorem last_dot {n:Nat} (φ f:Nat→Rat) (x:List Rat):dot n (vB φ f 0) x = φ 0 * stuckR n 0 x:=by
 unfold dot stuckR
 rw [← sR_mul]
 refine sR_congr fun i _=>?_
 unfold dotF
 rw [if_pos (.inl rfl),vB,Rat.mul_comm]
theorem stuck_dual (p:Rat) (φ f:Nat→Rat) (n k:Nat):sR (fun u=>φ u * stuckR n u (lvR p f n k (k - u))) (List.range (k + 1)) = bsum n fun r=>p ^ r * (1 - p) ^ (n - r) * vB φ f k (n - r) r:=by
 have key:∀ u,u ≤ k→dot n (vB φ f u) (lvR p f n k (k - u)) = sR (fun u=>φ u * stuckR n u (lvR p f n k (k - u))) (List.range (u + 1)):=by
  intro u
  induction u with
  | zero=>intro _;rw [last_dot];simp only [List.range_succ,List.range_zero,List.nil_append,sR];grind
  | succ u ih=>
   intro hu
   rw [step_dot φ f (supp_lv p f n k _),sR_last,← ih (by omega),Rat.add_comm]
   congr 2
   rw [show k - u = k - (u + 1) + 1 by omega,lvR,show k - (k - (u + 1)) = u + 1 by omega]
 rw [← key k (Nat.le_refl _),Nat.sub_self,lvR,first_dot]
theorem core_top {k:Nat} {X:List (List Int × Rat)} {φ:Nat→Rat} {F:List Int→List (List Int)→Rat} {Q P f:Nat→Rat} {P1:Rat} (hF:Core k (X.map (·.1)) φ F) (hE:Even k X Q P)
  (hf1:∀ u,u < k→Q (u + 1) * f (u + 1) = (u:Rat) * P (u + 1)) (hf2:∀ u,u < k→Q (u + 1) * (1 - f (u + 1)) = Q u)
  {U:List Int} (hU:U.Pairwise (· < ·)) (hk:U.length = k) (hin:∀ x ∈ U,0 ≤ x∧x < (k:Int)) (hne:∀ S ∈ X,1 ≤ cU U S.1)
  (h1:∀ g:List Int→Rat,sR (fun S=>S.2 * g (S.1.filter fun x=>U.contains x)) (X.filter fun S=>decide (cU U S.1 = 1)) = P1 * sR (fun t=>g [t]) U) (n:Nat) :
  tG X n (F U) = bsum n fun r=>((k:Rat) * P1) ^ r * Q k ^ (n - r) * vB φ f k (n - r) r:=by
 have e1:tG X n (F U) = tG X n fun x=>tG (sym U) 0 fun y=>F U (y ++ x):=rfl
 have e2:X.filter (fun S=>!(decide (cU U S.1 = 1))) = clo X U:=by
  unfold clo
  refine List.filter_congr fun S hS=>?_
  have:=hne S hS
  rw [Bool.eq_iff_iff];simp;omega
 rw [e1,tG_conv (L:=X) (M:=sym U) (p:=fun l=>decide (cU U l = 1)) (φ:=fun l=>l.filter fun x=>U.contains x) (P:=P1) (fun g=>?_) (fun l m h=>hF.perm _ _ _ h) fun S hS hp l=>?_]
 ·rw [e2]
  refine bsum_congr fun r hr=>?_
  rw [core_rec hF hE hf1 hf2 k U (n - r) (0 + r) hk (Nat.le_refl _) hU hin,Nat.zero_add,pow_mulR]
  grind
 ·rw [h1 g]
  unfold sym
  rw [sR_map]
  simp only [Rat.one_mul]
 ·have hp:=of_decide_eq_true hp
  unfold cU at hp
  obtain ⟨t,ht⟩:=List.length_eq_one_iff.1 hp
  have hmt:∀ x,x ∈ S.1∧x ∈ U ↔ x = t:=fun x=>by
   have:x ∈ S.1.filter (fun x=>U.contains x) ↔ x = t:=by rw [ht];simp
   rw [← this,List.mem_filter];simp
  have htU:=((hmt t).2 rfl).2
  simp only [ht]
  rw [hF.one _ _ l t (.inl (List.mem_map.2 ⟨S,hS,rfl⟩)) htU (sorted_nd hU) hmt,hF.one _ [t] l t (.inr rfl) htU (sorted_nd hU) fun z=>?_]
  constructor
  ·rintro ⟨h,_⟩;simpa using h
  ·rintro rfl;simp [htU]
theorem ripple_true {k:Nat} {X:List (List Int × Rat)} {φ:Nat→Rat} {F:List Int→List (List Int)→Rat} {Q P f:Nat→Rat} {P1 p:Rat} (hF:Core k (X.map (·.1)) φ F) (hE:Even k X Q P)
  (hf1:∀ u,u < k→Q (u + 1) * f (u + 1) = (u:Rat) * P (u + 1)) (hf2:∀ u,u < k→Q (u + 1) * (1 - f (u + 1)) = Q u)
  {U:List Int} (hU:U.Pairwise (· < ·)) (hk:U.length = k) (hin:∀ x ∈ U,0 ≤ x∧x < (k:Int)) (hne:∀ S ∈ X,1 ≤ cU U S.1)
  (h1:∀ g:List Int→Rat,sR (fun S=>S.2 * g (S.1.filter fun x=>U.contains x)) (X.filter fun S=>decide (cU U S.1 = 1)) = P1 * sR (fun t=>g [t]) U) (hp:p = (k:Rat) * P1) (hq:1 - p = Q k) (n:Nat) :
  sR (fun u=>φ u * stuckR n u (lvR p f n k (k - u))) (List.range (k + 1)) = tG X n (F U):=by
 rw [stuck_dual,core_top hF hE hf1 hf2 hU hk hin hne h1,← hp,← hq]
open Go Go.Proofs Go.RowKit
/-! How many sets meet so many. -/
def subs:List Int→List (List Int)
 | []=>[[]]
 | a :: U=>(subs U).map (a :: ·) ++ subs U
theorem ris_step {d f k:Nat} (h:f < k):risR (d + 1) f k = (risR d (f + 1) k).map (fun l=>((f:Nat):Int) :: l) ++ risR (d + 1) (f + 1) k:=by
 show (List.range (k - f)).flatMap (fun j:Nat=>(risR d (f + j + 1) k).map fun l=>((f + j:Nat):Int) :: l) = _
 obtain ⟨m,hm⟩ : ∃ m,k - f = m + 1:=⟨k - f - 1,by omega⟩
 rw [hm,List.range_succ_eq_map,List.flatMap_cons,List.flatMap_map]
 congr 1
 show _ = (List.range (k - (f + 1))).flatMap (fun j:Nat=>(risR d (f + 1 + j + 1) k).map fun l=>((f + 1 + j:Nat):Int) :: l)
 rw [show k - (f + 1) = m by omega]
 refine congrArg (fun g=>(List.range m).flatMap g) (funext fun j=>?_)
 rw [show f + (j + 1) = f + 1 + j by omega]
theorem ris_end {d f k:Nat} (h:k ≤ f):risR (d + 1) f k = []:=by
 show (List.range (k - f)).flatMap _ = _
 rw [show k - f = 0 by omega];rfl
theorem ris_lo:∀ {d f k:Nat} {l:List Int},l ∈ risR d f k→∀ x ∈ l,(f:Int) ≤ x
 | 0,f,k,l,h=>by rw [List.mem_singleton.1 h];intro x hx;cases hx
 | d + 1,f,k,l,h=>by
  obtain ⟨j,hj,h1⟩:=List.mem_flatMap.1 h
  obtain ⟨m,hm,rfl⟩:=List.mem_map.1 h1
  intro x hx
  rcases List.mem_cons.1 hx with rfl | hx
  ·omega
  ·have:=ris_lo hm x hx;omega
theorem ris_hi:∀ {d f k:Nat} {l:List Int},l ∈ risR d f k→l.length = d∧∀ x ∈ l,x < (k:Int)
 | 0,f,k,l,h=>by rw [List.mem_singleton.1 h];exact ⟨rfl,fun x hx=>nomatch hx⟩
 | d + 1,f,k,l,h=>by
  obtain ⟨j,hj,h1⟩:=List.mem_flatMap.1 h
  obtain ⟨m,hm,rfl⟩:=List.mem_map.1 h1
  have hj:=List.mem_range.1 hj
  obtain ⟨g1,g2⟩:=ris_hi hm
  refine ⟨by simp [g1],fun x hx=>?_⟩
  rcases List.mem_cons.1 hx with rfl | hx
  ·omega
  ·exact g2 x hx
theorem ris_nd:∀ {d f k:Nat} {l:List Int},l ∈ risR d f k→l.Pairwise (· < ·)
 | 0,f,k,l,h=>by rw [List.mem_singleton.1 h];exact .nil
 | d + 1,f,k,l,h=>by
  obtain ⟨j,hj,h1⟩:=List.mem_flatMap.1 h
  obtain ⟨m,hm,rfl⟩:=List.mem_map.1 h1
  exact List.pairwise_cons.2 ⟨fun x hx=>by have:=ris_lo hm x hx;omega,ris_nd hm⟩
def fillR (m d:Nat) (T:List Int):Rat:=if T.length ≤ d then (chs m (d - T.length):Rat) else 0
theorem filter_cons_in {U:List Int} {a:Int} {l:List Int} (h:∀ x ∈ l,x ≠ a):(a :: l).filter (fun x=>(a :: U).contains x) = a :: l.filter fun x=>U.contains x:=by
 rw [List.filter_cons,if_pos (by simp)]
 congr 1
 refine List.filter_congr fun x hx=>?_
 have:=h x hx
 simp [this]
theorem ris_sub:∀ {m d f k:Nat} {U:List Int} (G:List Int→Rat),k - f = m→U.Pairwise (· < ·)→(∀ x ∈ U,(f:Int) ≤ x∧x < k) →
  sR (fun S=>G (S.filter fun x=>U.contains x)) (risR d f k) = sR (fun T=>fillR (m - U.length) d T * G T) (subs U)
 | m,0,f,k,U,G,hm,hU,hin=>by
  have key:∀ (V:List Int) (m:Nat),sR (fun T=>fillR m 0 T * G T) (subs V) = G []:=by
   intro V
   induction V with
   | nil=>intro m;simp only [subs,sR,fillR,List.length_nil,Nat.le_refl,if_true,Nat.sub_zero,chs_zero];push_cast;grind
   | cons a V ih=>
    intro m
    simp only [subs]
    rw [sR_app,ih,sR_map,sR_congr (g:=fun _=>0) fun T _=>by unfold fillR;rw [if_neg (by simp)];grind,sR_zero];grind
  rw [key]
  show G ([].filter _) + 0 = G []
  rw [List.filter_nil];grind
 | 0,d + 1,f,k,U,G,hm,hU,hin=>by
  rw [ris_end (by omega)]
  cases U with
  | nil=>simp only [subs,sR,fillR,List.length_nil,Nat.zero_le,if_true,Nat.sub_zero,chs_over (Nat.zero_lt_succ d)];rw [show ((0:Nat):Rat) = 0 from rfl];grind
  | cons a V=>have:=hin a (by simp);omega
 | m + 1,d + 1,f,k,U,G,hm,hU,hin=>by
  rw [ris_step (by omega),sR_app,sR_map]
  have hlo:∀ {d:Nat} {l:List Int},l ∈ risR d (f + 1) k→∀ x ∈ l,x ≠ (f:Int):=fun h x hx=>by have:=ris_lo h x hx;omega
  by_cases hf:(f:Int) ∈ U
  ·cases U with
   | nil=>cases hf
   | cons a V=>
    obtain ⟨hV1,hV2⟩:=List.pairwise_cons.1 hU
    have ha:a = (f:Int):=by
     rcases List.mem_cons.1 hf with h | h
     ·exact h.symm
     ·have h1:=hV1 _ h
      have h2:=hin a (by simp);omega
    subst ha
    have hin':∀ x ∈ V,((f + 1:Nat):Int) ≤ x∧x < k:=fun x hx=>by have h1:=hV1 x hx;have h2:=hin x (by simp [hx]);omega
    have ih1:=ris_sub (m:=m) (d:=d) (f:=f + 1) (k:=k) (U:=V) (fun T=>G ((f:Int) :: T)) (by omega) hV2 hin'
    have ih2:=ris_sub (m:=m) (d:=d + 1) (f:=f + 1) (k:=k) (U:=V) G (by omega) hV2 hin'
    rw [sR_congr fun S hS=>by rw [filter_cons_in (hlo hS)],ih1]
    rw [sR_congr (l:=risR (d + 1) (f + 1) k) (g:=fun S=>G (S.filter fun x=>V.contains x)) fun S hS=>by
     congr 1
     refine List.filter_congr fun x hx=>?_
     have:=hlo hS x hx
     simp [this],ih2]
    simp only [subs]
    rw [sR_app,sR_map]
    congr 1
    ·refine sR_congr fun T _=>?_
     unfold fillR
     simp only [List.length_cons,Nat.add_le_add_iff_right,Nat.add_sub_add_right]
    ·refine sR_congr fun T _=>?_
     simp only [List.length_cons,Nat.add_sub_add_right]
  ·have hin':∀ x ∈ U,((f + 1:Nat):Int) ≤ x∧x < k:=fun x hx=>by
    have h1:=hin x hx
    have:x ≠ (f:Int):=fun e=>hf (e ▸ hx)
    omega
   have ih1:=ris_sub (m:=m) (d:=d) (f:=f + 1) (k:=k) (U:=U) G (by omega) hU hin'
   have ih2:=ris_sub (m:=m) (d:=d + 1) (f:=f + 1) (k:=k) (U:=U) G (by omega) hU hin'
   have hul:U.length ≤ m:=by
    have:∀ (V:List Int) (a:Nat),V.Pairwise (· < ·)→(∀ x ∈ V,(a:Int) ≤ x∧x < k)→V.length ≤ k - a:=by
     intro V
     induction V with
     | nil=>intro a _ _;simp
     | cons b V ih=>
      intro a h1 h2
      obtain ⟨g1,g2⟩:=List.pairwise_cons.1 h1
      have hb:=h2 b (by simp)
      have:=ih (b.toNat + 1) g2 fun x hx=>by have:=g1 x hx;have:=h2 x (by simp [hx]);omega
      simp only [List.length_cons];omega
    have:=this U (f + 1) hU hin'
    omega
   rw [sR_congr fun S hS=>by rw [List.filter_cons,if_neg (by simpa using hf)],ih1,ih2,← sR_add]
   refine sR_congr fun T _=>?_
   unfold fillR
   rw [show m + 1 - U.length = m - U.length + 1 by omega]
   by_cases e1:T.length ≤ d
   ·rw [if_pos e1,if_pos (by omega),if_pos (by omega),show d + 1 - T.length = d - T.length + 1 by omega,chs_succ];push_cast;grind
   ·by_cases e2:T.length ≤ d + 1
    ·rw [if_neg e1,if_pos e2,if_pos e2,show d + 1 - T.length = 0 by omega,chs_zero,chs_zero];grind
    ·rw [if_neg e1,if_neg e2,if_neg e2];grind
theorem subs_len (h:Nat→Rat):∀ U:List Int,sR (fun T=>h T.length) (subs U) = bsum U.length h
 | []=>by simp only [subs,sR,List.length_nil,bsum];grind
 | a :: U=>by
  simp only [subs,List.length_cons,bsum]
  rw [sR_app,sR_map,← subs_len h U,← subs_len (fun i=>h (i + 1)) U,Rat.add_comm]
  simp only [List.length_cons]
theorem subs_mem:∀ {U T:List Int},T ∈ subs U→∀ x ∈ T,x ∈ U
 | [],T,h,x,hx=>by rw [List.mem_singleton.1 h] at hx;cases hx
 | a :: U,T,h,x,hx=>by
  rcases List.mem_append.1 h with h | h
  ·obtain ⟨T',h',rfl⟩:=List.mem_map.1 h
   rcases List.mem_cons.1 hx with rfl | hx
   ·simp
   ·exact List.mem_cons_of_mem _ (subs_mem h' x hx)
  ·exact List.mem_cons_of_mem _ (subs_mem h x hx)
theorem subs_none (g:List Int→Rat):∀ U:List Int,sR (fun T=>if T.length = 0 then g T else 0) (subs U) = g []
 | []=>by simp only [subs,sR,List.length_nil,if_true];grind
 | a :: U=>by
  simp only [subs]
  rw [sR_app,sR_map,subs_none g U,sR_congr (g:=fun _=>0) fun T _=>by simp,sR_zero];grind
theorem subs_one (g:List Int→Rat):∀ U:List Int,sR (fun T=>if T.length = 1 then g T else 0) (subs U) = sR (fun t=>g [t]) U
 | []=>by simp only [subs,sR,List.length_nil];rw [if_neg (by decide)];grind
 | a :: U=>by
  simp only [subs,sR]
  rw [sR_app,sR_map,subs_one g U,← subs_none (fun T=>g (a :: T)) U]
  congr 1
  exact sR_congr fun T _=>by simp
theorem subs_two {s:Int} (g:List Int→Rat):∀ {U:List Int},U.Nodup→s ∈ U→sR (fun T=>if T.length = 2∧s ∈ T then g (T.filter fun x=>decide (x ≠ s)) else 0) (subs U) = sR (fun t=>g [t]) (U.erase s)
 | [],_,h=>by cases h
 | a :: U,hn,h=>by
  obtain ⟨h1,h2⟩:=List.nodup_cons.1 hn
  simp only [subs]
  rw [sR_app,sR_map]
  by_cases e:a = s
  ·subst e
   rw [List.erase_cons_head,← subs_one g U]
   have k1:sR (fun T:List Int=>if T.length = 2∧a ∈ T then g (T.filter fun x=>decide (x ≠ a)) else 0) (subs U) = 0:=by
    rw [sR_congr (g:=fun _=>0) fun T hT=>by rw [if_neg fun h=>h1 (subs_mem hT a h.2)],sR_zero]
   rw [k1,Rat.add_zero]
   refine sR_congr fun T hT=>?_
   have hT2:T.filter (fun x=>decide (x ≠ a)) = T:=List.filter_eq_self.2 fun x hx=>by
    have:x ≠ a:=fun e=>h1 (e ▸ subs_mem hT x hx)
    simp [this]
   by_cases e2:T.length = 1
   ·rw [if_pos e2,if_pos ⟨by simp [e2],by simp⟩,List.filter_cons,if_neg (by simp),hT2]
   ·rw [if_neg e2,if_neg (by simp [e2])]
  ·have hs:s ∈ U:=by
    rcases List.mem_cons.1 h with h | h
    ·exact absurd h.symm e
    ·exact h
   rw [List.erase_cons_tail (by simpa using e),subs_two g h2 hs]
   simp only [sR]
   congr 1
   have k1:=subs_one (fun T=>if s ∈ T then g [a] else 0) U
   rw [sR_congr (f:=fun t=>if s ∈ [t] then g [a] else 0) (g:=fun t=>if t = s then g [a] else 0) fun t _=>by simp [eq_comm]] at k1
   have k2:∀ V:List Int,V.Nodup→sR (fun t=>if t = s then g [a] else 0) V = if s ∈ V then g [a] else 0:=by
    intro V
    induction V with
    | nil=>intro _;simp [sR]
    | cons b V ih=>
     intro hV
     obtain ⟨v1,v2⟩:=List.nodup_cons.1 hV
     simp only [sR]
     rw [ih v2]
     by_cases eb:b = s
     ·subst eb;rw [if_pos rfl,if_neg v1,if_pos (by simp)];grind
     ·rw [if_neg eb]
      have:s ∈ b :: V ↔ s ∈ V:=by simp [Ne.symm eb]
      simp only [this];grind
   rw [k2 U h2,if_pos hs] at k1
   rw [← k1]
   refine sR_congr fun T hT=>?_
   by_cases e2:T.length = 1
   ·by_cases e3:s ∈ T
    ·obtain ⟨z,rfl⟩:=List.length_eq_one_iff.1 e2
     obtain rfl:s = z:=by simpa using e3
     rw [if_pos ⟨by simp,by simp⟩,if_pos e2,if_pos e3]
     congr 1
     rw [List.filter_cons,if_pos (by simpa using e),List.filter_cons,if_neg (by simp),List.filter_nil]
    ·rw [if_neg (by simp [e3,Ne.symm e]),if_pos e2,if_neg e3]
   ·rw [if_neg (by simp [e2]),if_neg e2]
open Go Go.Proofs Go.RowKit
/-! Sets of like size weigh alike. -/
def fillC (m d j:Nat):Rat:=if j ≤ d then (chs m (d - j):Rat) else 0
def evX (m k:Nat) (ω:Nat→Rat):List (List Int × Rat):=(List.range m).flatMap fun i=>(risR (i + 1) 0 k).map fun l=>(l,ω i)
def evQ (m k:Nat) (ω:Nat→Rat) (u:Nat):Rat:=sR (fun i=>ω i * bsum u fun j=>if 2 ≤ j then fillC (k - u) (i + 1) j else 0) (List.range m)
def evP (m k:Nat) (ω:Nat→Rat) (u:Nat):Rat:=sR (fun i=>ω i * fillC (k - u) (i + 1) 2) (List.range m)
def evI (m k:Nat) (ω:Nat→Rat) (u j:Nat):Rat:=sR (fun i=>ω i * ((chs u j:Rat) * fillC (k - u) (i + 1) j)) (List.range m)
theorem sR_flat {α β:Type} (F:β→Rat) (g:α→List β):∀ l:List α,sR F (l.flatMap g) = sR (fun a=>sR F (g a)) l
 | []=>rfl
 | a :: l=>by rw [List.flatMap_cons,sR_app,sR_flat F g l];rfl
theorem sR_if {α:Type} (F:α→Rat) (p:α→Bool):∀ l:List α,sR F (l.filter p) = sR (fun x=>if p x = true then F x else 0) l
 | []=>rfl
 | a :: l=>by
  rw [List.filter_cons]
  simp only [sR]
  rw [← sR_if F p l]
  cases p a
  ·simp only [Bool.false_eq_true,if_false];grind
  ·simp only [if_true,sR]
theorem ev_sum {m k:Nat} {ω:Nat→Rat} {U:List Int} (hU:U.Pairwise (· < ·)) (hin:∀ x ∈ U,0 ≤ x∧x < (k:Int)) (H:List Int→Rat) :
  sR (fun S=>S.2 * H (S.1.filter fun x=>U.contains x)) (evX m k ω) = sR (fun i=>ω i * sR (fun T=>fillC (k - U.length) (i + 1) T.length * H T) (subs U)) (List.range m):=by
 unfold evX
 rw [sR_flat]
 refine sR_congr fun i _=>?_
 rw [sR_map,sR_mul (ω i) (fun S:List Int=>H (S.filter fun x=>U.contains x)),ris_sub (m:=k) H rfl hU fun x hx=>by have:=hin x hx;omega]
 rfl
theorem ev_nd {m k:Nat} {ω:Nat→Rat}:∀ s ∈ evX m k ω,s.1.Pairwise (· < ·)∧∃ i,i < m∧s.1 ∈ risR (i + 1) 0 k∧s.2 = ω i:=fun s hs=>by
 obtain ⟨i,hi,h1⟩:=List.mem_flatMap.1 hs
 obtain ⟨l,hl,rfl⟩:=List.mem_map.1 h1
 exact ⟨ris_nd hl,i,List.mem_range.1 hi,hl,rfl⟩
theorem filter_erase {U:List Int} (hU:U.Nodup) (s:Int) (l:List Int):l.filter (fun x=>(U.erase s).contains x) = (l.filter fun x=>U.contains x).filter fun x=>decide (x ≠ s):=by
 rw [List.filter_filter]
 refine List.filter_congr fun x _=>?_
 rw [Bool.eq_iff_iff]
 simp [hU.mem_erase_iff]
theorem ev_even (m k:Nat) (ω:Nat→Rat):Even k (evX m k ω) (evQ m k ω) (evP m k ω):=by
 refine ⟨fun s hs=>sorted_nd (ev_nd s hs).1,fun U hU hin=>?_,fun U hU hin s hs g=>?_⟩
 ·unfold clo evQ
  rw [sR_if]
  have:=ev_sum (m:=m) (ω:=ω) hU hin fun T=>if 2 ≤ T.length then 1 else 0
  rw [sR_congr (g:=fun S=>S.2 * (fun T:List Int=>if 2 ≤ T.length then 1 else 0) (S.1.filter fun x=>U.contains x)) fun S _=>?_,this]
  ·refine sR_congr fun i _=>?_
   rw [← subs_len]
   congr 1
   refine sR_congr fun T _=>?_
   split <;> grind
  ·unfold cU
   by_cases e:2 ≤ (S.1.filter fun x=>U.contains x).length
   ·simp only [e,decide_true,if_true];grind
   ·simp only [e,decide_false,Bool.false_eq_true,if_false];grind
 ·unfold evP
  have hn:=sorted_nd hU
  rw [sR_if]
  have:=ev_sum (m:=m) (ω:=ω) hU hin fun T=>if T.length = 2∧s ∈ T then g (T.filter fun x=>decide (x ≠ s)) else 0
  rw [sR_congr (g:=fun S=>S.2 * (fun T:List Int=>if T.length = 2∧s ∈ T then g (T.filter fun x=>decide (x ≠ s)) else 0) (S.1.filter fun x=>U.contains x)) fun S _=>?_,this]
  ·rw [← Rat.mul_comm,← sR_mul]
   refine sR_congr fun i _=>?_
   rw [← subs_two g hn hs,Rat.mul_comm (sR _ _),Rat.mul_assoc]
   congr 1
   rw [← sR_mul]
   refine sR_congr fun T _=>?_
   split
   ·rename_i h;rw [h.1]
   ·grind
  ·have hm:s ∈ S.1.filter (fun x=>U.contains x) ↔ s ∈ S.1:=by rw [List.mem_filter];simp [hs]
   unfold cU
   rw [filter_erase hn]
   simp only [hm]
   by_cases e:(S.1.filter fun x=>U.contains x).length = 2∧s ∈ S.1
   ·rw [if_pos e,if_pos (by rw [Bool.and_eq_true];exact ⟨decide_eq_true e.1,by simpa using e.2⟩)]
   ·rw [if_neg e,if_neg (by rw [Bool.and_eq_true];rintro ⟨h1,h2⟩;exact e ⟨of_decide_eq_true h1,by simpa using h2⟩)];grind
theorem ev_one {m k:Nat} {ω:Nat→Rat} {U:List Int} (hU:U.Pairwise (· < ·)) (hin:∀ x ∈ U,0 ≤ x∧x < (k:Int)) (g:List Int→Rat) :
  sR (fun S=>S.2 * g (S.1.filter fun x=>U.contains x)) ((evX m k ω).filter fun S=>decide (cU U S.1 = 1)) = sR (fun i=>ω i * fillC (k - U.length) (i + 1) 1) (List.range m) * sR (fun t=>g [t]) U:=by
 rw [sR_if]
 have:=ev_sum (m:=m) (ω:=ω) hU hin fun T=>if T.length = 1 then g T else 0
 rw [sR_congr (g:=fun S=>S.2 * (fun T:List Int=>if T.length = 1 then g T else 0) (S.1.filter fun x=>U.contains x)) fun S _=>?_,this]
 ·rw [← Rat.mul_comm,← sR_mul]
  refine sR_congr fun i _=>?_
  rw [← subs_one g,Rat.mul_comm (sR _ _),Rat.mul_assoc]
  congr 1
  rw [← sR_mul]
  refine sR_congr fun T _=>?_
  split
  ·rename_i h;rw [h]
  ·grind
 ·unfold cU
  by_cases e:(S.1.filter fun x=>U.contains x).length = 1
  ·simp only [e,decide_true,if_true]
  ·simp only [e,decide_false,Bool.false_eq_true,if_false];grind
theorem evI_two (m k:Nat) (ω:Nat→Rat) (u:Nat):evI m k ω u 2 = (chs u 2:Rat) * evP m k ω u:=by
 unfold evI evP
 rw [← sR_mul]
 exact sR_congr fun i _=>by grind
theorem bsum_range (u:Nat) (h:Nat→Rat):bsum u (fun j=>if 2 ≤ j then h j else 0) = sR (fun j=>(chs u (j + 2):Rat) * h (j + 2)) (List.range (u - 1)):=by
 rw [← bsum_chs,sR_shift]
 cases u with
 | zero=>simp [sR,Rat.mul_zero,Rat.add_zero]
 | succ u=>
  rw [sR_shift,Nat.add_sub_cancel]
  simp only [show ¬ (2 ≤ 0) by decide,show ¬ (2 ≤ 0 + 1) by decide,if_false]
  rw [sR_congr (g:=fun j=>(chs (u + 1) (j + 2):Rat) * h (j + 2)) fun j _=>by rw [if_pos (by omega)]]
  grind
theorem evQ_sum (m k:Nat) (ω:Nat→Rat) (u:Nat):evQ m k ω u = sR (fun j=>evI m k ω u (j + 2)) (List.range (u - 1)):=by
 unfold evQ evI
 rw [sR_comm]
 refine sR_congr fun i _=>?_
 rw [bsum_range,← sR_mul]
theorem evQ_step (m k:Nat) (ω:Nat→Rat) {u:Nat} (hu:u < k):evQ m k ω (u + 1) = (u:Rat) * evP m k ω (u + 1) + evQ m k ω u:=by
 have hE:=ev_even m k ω
 have hU:∀ u,((List.range u).map fun i:Nat=>(i:Int)).Pairwise (· < ·):=fun u=>by
  rw [List.pairwise_map]
  exact List.pairwise_lt_range.imp fun h=>by omega
 obtain ⟨U,hUe⟩ : ∃ U,U = (List.range (u + 1)).map fun i:Nat=>(i:Int):=⟨_,rfl⟩
 have h1:U.Pairwise (· < ·):=hUe ▸ hU (u + 1)
 have hn:=sorted_nd h1
 have hl:U.length = u + 1:=by rw [hUe];simp
 have hin:∀ x ∈ U,0 ≤ x∧x < (k:Int):=fun x hx=>by
  rw [hUe] at hx
  obtain ⟨i,hi,rfl⟩:=List.mem_map.1 hx
  have:=List.mem_range.1 hi;omega
 have hs:(0:Int) ∈ U:=by rw [hUe];exact List.mem_map.2 ⟨0,List.mem_range.2 (by omega),rfl⟩
 have hl':(U.erase 0).length = u:=by rw [List.length_erase_of_mem hs,hl];rfl
 have a1:=hE.cloud U h1 hin
 have a2:=hE.cloud (U.erase 0) (h1.sublist List.erase_sublist) fun x hx=>hin x (List.mem_of_mem_erase hx)
 have a3:=hE.two U h1 hin 0 hs fun _=>1
 rw [hl] at a1 a3
 rw [hl'] at a2
 rw [sR_const,hl'] at a3
 rw [← a1,← a2]
 unfold clo at *
 rw [sR_if] at a3
 rw [sR_if,sR_if,show (u:Rat) * evP m k ω (u + 1) = evP m k ω (u + 1) * ((u:Rat) * 1) by grind,← a3,← sR_add]
 refine sR_congr fun S hS=>?_
 have h2:=cU_erase hn hs (hE.nd S hS)
 by_cases hm:(0:Int) ∈ S.1
 ·rw [if_pos hm] at h2
  have hc:S.1.contains 0 = true:=by simpa using hm
  rw [hc]
  simp only [Bool.and_true,decide_eq_true_eq]
  by_cases e:cU U S.1 = 2
  ·rw [if_pos (by omega),if_pos e,if_neg (by omega)];grind
  ·by_cases e2:2 ≤ cU U S.1
   ·rw [if_pos e2,if_neg e,if_pos (by omega)];grind
   ·rw [if_neg e2,if_neg e,if_neg (by omega)];grind
 ·rw [if_neg hm,Nat.add_zero] at h2
  have hc:S.1.contains 0 = false:=by simpa using hm
  rw [hc,Bool.and_false,h2,if_neg (show ¬ false = true from Bool.false_ne_true),Rat.zero_add]
theorem sR_nonneg {α:Type} {f:α→Rat}:∀ {l:List α},(∀ x ∈ l,0 ≤ f x)→0 ≤ sR f l
 | [],_=>by simp only [sR];exact Rat.le_refl
 | a :: l,h=>by
  have h1:=h a (by simp)
  have h2:=sR_nonneg (l:=l) fun x hx=>h x (by simp [hx])
  simp only [sR];grind
theorem bsum_nonneg:∀ {c:Nat} {f:Nat→Rat},(∀ a,0 ≤ f a)→0 ≤ bsum c f
 | 0,f,h=>h 0
 | c + 1,f,h=>by
  have h1:=bsum_nonneg (c:=c) h
  have h2:=bsum_nonneg (c:=c) fun a=>h (a + 1)
  simp only [bsum];grind
theorem natR_nonneg (n:Nat):(0:Rat) ≤ (n:Rat):=by exact_mod_cast Nat.zero_le n
theorem fillC_nonneg (m d j:Nat):0 ≤ fillC m d j:=by
 unfold fillC;split
 ·exact natR_nonneg _
 ·exact Rat.le_refl
theorem evP_nonneg {m k:Nat} {ω:Nat→Rat} (h:∀ i,i < m→0 ≤ ω i) (u:Nat):0 ≤ evP m k ω u:=
 sR_nonneg fun i hi=>Rat.mul_nonneg (h i (List.mem_range.1 hi)) (fillC_nonneg _ _ _)
theorem evQ_nonneg {m k:Nat} {ω:Nat→Rat} (h:∀ i,i < m→0 ≤ ω i) (u:Nat):0 ≤ evQ m k ω u:=
 sR_nonneg fun i hi=>Rat.mul_nonneg (h i (List.mem_range.1 hi)) (bsum_nonneg fun j=>by
  split
  ·exact fillC_nonneg _ _ _
  ·exact Rat.le_refl)
def freeR (m k:Nat) (ω:Nat→Rat) (u:Nat):Rat:=if evQ m k ω u = 0 then 0 else 2 / (u:Rat) * evI m k ω u 2 / evQ m k ω u
theorem chs_one:∀ n:Nat,chs n 1 = n
 | 0=>rfl
 | n + 1=>by rw [show chs (n + 1) 1 = chs n 0 + chs n 1 from rfl,chs_zero,chs_one n,Nat.add_comm]
theorem chs_two:∀ u:Nat,2 * chs (u + 1) 2 = (u + 1) * u
 | 0=>rfl
 | u + 1=>by
  rw [show chs (u + 1 + 1) 2 = chs (u + 1) 1 + chs (u + 1) 2 from rfl,Nat.mul_add,chs_two u]
  rw [chs_one];grind
theorem free_one {m k:Nat} {ω:Nat→Rat} (h:∀ i,i < m→0 ≤ ω i) {u:Nat} (hu:u < k):evQ m k ω (u + 1) * freeR m k ω (u + 1) = (u:Rat) * evP m k ω (u + 1):=by
 have h1:=evQ_step m k ω hu
 have h2:=evQ_nonneg (k:=k) h u
 have h3:=Rat.mul_nonneg (natR_nonneg u) (evP_nonneg (k:=k) h (u + 1))
 unfold freeR
 by_cases e:evQ m k ω (u + 1) = 0
 ·rw [if_pos e,e]
  rw [e] at h1
  grind
 ·rw [if_neg e,evI_two]
  have h4:(2:Rat) * (chs (u + 1) 2:Rat) = ((u + 1:Nat):Rat) * (u:Rat):=by exact_mod_cast congrArg (Nat.cast (R:=Rat)) (chs_two u)
  have h5:((u + 1:Nat):Rat) ≠ 0:=by
   intro h
   have:((u + 1:Nat):Rat) = ((0:Nat):Rat):=h
   have:=Rat.natCast_inj.1 this
   omega
  generalize ((u + 1:Nat):Rat) = N at *
  generalize evP m k ω (u + 1) = p at *
  generalize evQ m k ω (u + 1) = q at *
  generalize (chs (u + 1) 2:Rat) = c at *
  have:q * (2 / N * (c * p) / q) = (2 * c) * p / N:=by grind
  rw [this,h4]
  grind
theorem free_two {m k:Nat} {ω:Nat→Rat} (h:∀ i,i < m→0 ≤ ω i) {u:Nat} (hu:u < k):evQ m k ω (u + 1) * (1 - freeR m k ω (u + 1)) = evQ m k ω u:=by
 have h1:=free_one h hu
 have h2:=evQ_step m k ω hu
 grind
open Go Go.Proofs Go.RowKit
attribute [local irreducible] Fit pt own ro vw mpc lpt vels rels mow lrc dfr
theorem Pick_tr (x m:Int) (hm:m ≤ 9223372036854775807):Tr Tryz.prog 30 [I x,I m] [] [] fun v D=>v = I (pick x m)∧D = []:=by
 have hf:m ≤ 0∨(0 < m∧0 ≤ x % m∧x % m < m∧(x.tmod m < 0→x.tmod m = x % m - m)∧(¬ x.tmod m < 0→x.tmod m = x % m)):=by
  by_cases h:m ≤ 0
  ·exact .inl h
  ·have h1:=tmod_pick x m (by omega)
   refine .inr ⟨by omega,Int.emod_nonneg x (by omega),Int.emod_lt_of_pos x (by omega),fun hc=>?_,fun hc=>?_⟩
   ·rw [if_pos hc] at h1;exact h1
   ·rw [if_neg hc] at h1;exact h1
 refine Tr.enter env _ Tryz.func30 (by kernel_rfl) rfl Tryz.ntmps30 rfl (by repeat (first | exact has00 | refine has01 ?_)) fun w0=>?_
 repeat' first|refine amodw ?_|(refine wo ?_;first|(refine ao ?_;first|refine aw ?_|refine oa ?_)|refine oa ?_)|(refine gc ?_;first|(refine ci (fun hB=>?_) (fun hB=>?_) <;> try (exfalso;omega)))|refine sq ?_|refine rg ?_|refine xc ?_|refine nl ?_|refine sk ?_|refine rt ?_
 all_goals refine r1 ⟨?_,rfl⟩;simp only [pick]
 ·rw [if_pos hB]
 ·rw [if_neg (by omega)];congr 1;omega
 ·rw [if_neg (by omega)];congr 1;omega
end Go.Art
namespace Go.Art
open Go Go.Proofs Go.RowKit
attribute [local irreducible] Fit pt own ro vw mpc lpt vels rels mow lrc dfr
end Go.Art
namespace Go.Art
open Go Go.Proofs Go.RowKit
attribute [local irreducible] Fit pt own ro vw mpc lpt vels rels mow lrc dfr
end Go.Art
namespace Go.Art
open Go Go.Proofs Go.RowKit
attribute [local irreducible] Fit pt own ro vw mpc lpt vels rels mow lrc dfr
end Go.Art
namespace Go.Art
end Go.Art
set_option maxRecDepth 4000
namespace Go.Art
open Go Go.Proofs Go.RowKit
attribute [local irreducible] Fit pt own ro vw mpc lpt vels rels mow lrc dfr
def upFrom (k:Int):Int→List Int→Bool
 | _,[]=>true
 | last,x :: r=>decide (last < x) && (decide (x < k) && upFrom k x r)
def isSet (k:Int) (l:List Int):Bool:=upFrom k (-1) l && decide (0 < l.length)
theorem drop_cons {l:List Int} {i:Nat} (h:i < l.length):l.drop i = l.getD i 0 :: l.drop (i + 1):=by
 rw [List.drop_eq_getElem_cons h];simp [List.getD_eq_getElem?_getD,h]
theorem and3_no {p q:Prop} [Decidable p] [Decidable q] (h:¬ (p∧q)) (b c:Bool):((decide p && (decide q && b)) && c) = false:=by
 by_cases hp:p <;> by_cases hq:q <;> simp_all
theorem and3_yes {p q:Prop} [Decidable p] [Decidable q] (h:p∧q) (b:Bool):(decide p && (decide q && b)) = b:=by simp [h.1,h.2]
theorem fine_tr (k:Int) (s:Value) (l:List Int):Tr Tryz.prog 190 [I k,s] [vw s (Is l)] [] fun v D=>v = .bool (isSet k l)∧D = []:=by
 refine Tr.enter env _ Tryz.func190 (by kernel_rfl) rfl Tryz.ntmps190 rfl (by repeat (first | exact has00 | refine has01 ?_)) fun w0=>?_
 refine TC.leni (l:=l) fun hl=>?_
 repeat' first|(refine wo ?_;first|(refine ao ?_;first|refine aw ?_|refine aw6 ?_|refine oa ?_|refine adiv ?_|refine amod ?_|refine shr1 ?_|refine shr ?_|refine umod ?_|refine isl ?_|refine ipe ?_|refine ipn ?_|refine ibe ?_)|refine acw ?_|refine ucv ?_|refine anw ?_|refine oa ?_|refine ld ?_|refine ldl ?_|refine lnm ?_|refine ixmn ?_|refine ixm ?_|refine li ?_|refine lb ?_|refine lv ?_|refine ln ?_|refine ixn ?_|refine ix ?_|refine le ?_|refine sr ?_|refine soi ?_|refine sob ?_|refine scm ?_|refine sclm ?_|refine schm ?_|refine gy ?_|refine gn ?_|refine gnn ?_|refine gu ?_|(refine gsi (fun hB=>?_) (fun hB=>?_) <;> try (exfalso;omega))|(refine gsn (fun hB=>?_) (fun hB=>?_) <;> try (exfalso;omega))|(refine gs (fun hB=>?_) (fun hB=>?_) <;> try (exfalso;omega)))|(refine gc ?_;first|refine ct ?_|refine cf ?_|(refine ci (fun hB=>?_) (fun hB=>?_) <;> try (exfalso;omega))|(refine cn (fun hB=>?_) (fun hB=>?_) <;> try (exfalso;omega))|(refine cb (fun hB=>?_) (fun hB=>?_) <;> try (exfalso;omega)))|refine sq ?_|refine rg ?_|refine xc ?_|refine nl ?_|refine sk ?_|refine bk ?_|refine xe ?_|refine rt ?_|refine xb ?_
 refine TC.loop (ι:=Nat × Int) (fun i=>[(5,I i.2),(10,I i.1)]) (fun _=>[]) (fun i=>i.1 ≤ l.length∧upFrom k (-1) l = upFrom k i.2 (l.drop i.1)) (fun i=>l.length - i.1) (0,-1) [0,1,8,9] ⟨by simp,rfl⟩ ?_
 rintro ⟨i,la⟩ ⟨hi,hu⟩
 dsimp only at hi hu ⊢
 by_cases hlt:i < l.length
 ·rw [drop_cons hlt] at hu
  simp only [upFrom] at hu
  repeat' first|(refine wo ?_;first|(refine ao ?_;first|refine aw ?_|refine aw6 ?_|refine oa ?_|refine adiv ?_|refine amod ?_|refine shr1 ?_|refine shr ?_|refine umod ?_|refine isl ?_|refine ipe ?_|refine ipn ?_|refine ibe ?_)|refine acw ?_|refine ucv ?_|refine anw ?_|refine oa ?_|refine ld ?_|refine ldl ?_|refine lnm ?_|refine ixmn ?_|refine ixm ?_|refine li ?_|refine lb ?_|refine lv ?_|refine ln ?_|refine ixn ?_|refine ix ?_|refine le ?_|refine sr ?_|refine soi ?_|refine sob ?_|refine scm ?_|refine sclm ?_|refine schm ?_|refine gy ?_|refine gn ?_|refine gnn ?_|refine gu ?_|(refine gsi (fun hB=>?_) (fun hB=>?_) <;> try (exfalso;omega))|(refine gsn (fun hB=>?_) (fun hB=>?_) <;> try (exfalso;omega))|(refine gs (fun hB=>?_) (fun hB=>?_) <;> try (exfalso;omega)))|(refine gc ?_;first|refine ct ?_|refine cf ?_|(refine ci (fun hB=>?_) (fun hB=>?_) <;> try (exfalso;omega))|(refine cn (fun hB=>?_) (fun hB=>?_) <;> try (exfalso;omega))|(refine cb (fun hB=>?_) (fun hB=>?_) <;> try (exfalso;omega)))|refine sq ?_|refine rg ?_|refine xc ?_|refine nl ?_|refine sk ?_|refine bk ?_|refine xe ?_|refine rt ?_|refine xb ?_|refine rq ?_|refine nq ?_|(refine wq ?_;first|(refine qao ?_;first|refine qaw ?_|refine qa ?_|refine qibe ?_)|refine qacw ?_|refine qa ?_|refine qld ?_|refine qldl ?_|refine qlnm ?_|refine qixmn ?_|refine qixm ?_|refine qli ?_|refine qlb ?_|refine qlv ?_|refine qln ?_|refine qixn ?_|refine qix ?_|refine qle ?_|refine qgy ?_|refine qgn ?_|refine qgu ?_|(refine qgsi (fun hB=>?_) (fun hB=>?_) <;> try (exfalso;omega))|(refine qgsn (fun hB=>?_) (fun hB=>?_) <;> try (exfalso;omega))|(refine qgs (fun hB=>?_) (fun hB=>?_) <;> try (exfalso;omega)))
  all_goals first
   | exact lp (i + 1,l.getD i 0) ⟨by dsimp only;omega,by rw [hu,and3_yes (by omega)]⟩
   | (refine r1 ⟨?_,rfl⟩;rw [isSet,hu,and3_no (by omega)])
 ·repeat' first|(refine wo ?_;first|(refine ao ?_;first|refine aw ?_|refine aw6 ?_|refine oa ?_|refine adiv ?_|refine amod ?_|refine shr1 ?_|refine shr ?_|refine umod ?_|refine isl ?_|refine ipe ?_|refine ipn ?_|refine ibe ?_)|refine acw ?_|refine ucv ?_|refine anw ?_|refine oa ?_|refine ld ?_|refine ldl ?_|refine lnm ?_|refine ixmn ?_|refine ixm ?_|refine li ?_|refine lb ?_|refine lv ?_|refine ln ?_|refine ixn ?_|refine ix ?_|refine le ?_|refine sr ?_|refine soi ?_|refine sob ?_|refine scm ?_|refine sclm ?_|refine schm ?_|refine gy ?_|refine gn ?_|refine gnn ?_|refine gu ?_|(refine gsi (fun hB=>?_) (fun hB=>?_) <;> try (exfalso;omega))|(refine gsn (fun hB=>?_) (fun hB=>?_) <;> try (exfalso;omega))|(refine gs (fun hB=>?_) (fun hB=>?_) <;> try (exfalso;omega)))|(refine gc ?_;first|refine ct ?_|refine cf ?_|(refine ci (fun hB=>?_) (fun hB=>?_) <;> try (exfalso;omega))|(refine cn (fun hB=>?_) (fun hB=>?_) <;> try (exfalso;omega))|(refine cb (fun hB=>?_) (fun hB=>?_) <;> try (exfalso;omega)))|refine sq ?_|refine rg ?_|refine xc ?_|refine nl ?_|refine sk ?_|refine bk ?_|refine xe ?_|refine rt ?_|refine xb ?_
  rw [List.drop_of_length_le (by omega)] at hu
  refine r1 ⟨?_,rfl⟩
  rw [isSet,hu];simp [upFrom]
end Go.Art
set_option maxRecDepth 4000
namespace Go.Art
open Go Go.Proofs Go.RowKit
attribute [local irreducible] Fit pt own ro vw mpc lpt vels rels mow lrc dfr
/-! ### Which of the lists is so -/
theorem IndexFunc_tr (s:Value) (hs:List Value) (ls:List (List Int)) (f:FuncId) (cap:List Value) (pre:List Ch) (p:List Int→Bool)
  (hp:∀ c ∈ pre,∀ A:List Ch,c ∈ A→Has A c) (hf:∀ h l,l ∈ ls→Tr Tryz.prog f (h :: cap) (vw h (Is l) :: pre) [] fun v D=>v = .bool (p l)∧D = []) :
  Tr Tryz.prog 235 [s,.func (.func f) #[] cap.toArray] (vw s hs :: vels hs ls :: pre) [] fun v D=>(∃ i:Int,v = I i∧(0 ≤ i ↔ ls.any p = true))∧D = []:=by
 refine Tr.enter env _ Tryz.func235 (by kernel_rfl) rfl Tryz.ntmps235 rfl (has01 (has01 fun c hc b=>⟨(hp c hc [c] (by simp)).wr b,(hp c hc [c] (by simp)).rd b⟩)) fun w0=>?_
 refine TC.els (hs:=hs) (ls:=ls) (fun hl=>?_)
 refine TC.fact (vw_len (v:=s) (xs:=hs) hasA) fun hlen=>?_
 repeat' first|(refine wo ?_;first|refine oa ?_|refine ln ?_)|refine sq ?_|refine rg ?_|refine xc ?_|refine nl ?_|refine bk ?_
 refine TC.loop (ι:=Nat) (fun i=>[(8,I i)]) (fun _=>[]) (fun i=>i ≤ ls.length∧∀ j,j < i→p (ls.getD j []) = false) (fun i=>ls.length - i) 0 [0,1,6,7] ⟨by omega,by omega⟩ ?_
 rintro i ⟨h1,h2⟩
 by_cases hi:i < ls.length
 ·have hmem:ls.getD i [] ∈ ls:=by rw [List.getD_eq_getElem?_getD,List.getElem?_eq_getElem hi];exact List.getElem_mem hi
  repeat' first|(refine cav (vs:=[hs.getD i nS]) (cap:=cap.toArray) (hf _ _ hmem) ?_ rfl rfl Fit.nil (has1 (has_el (has_vels (by simp)) hi) (fun c hc=>hp c hc _ (by simp [hc]))) rfl;rintro _ _ ⟨rfl,rfl⟩)|(refine wo ?_;first|(refine ao ?_;first|refine aw ?_|refine oa ?_)|refine oa ?_|refine lv ?_|refine ixn ?_)|(refine gc ?_;first|(refine ci (fun hB=>?_) (fun hB=>?_) <;> try (exfalso;omega))|(refine cb (fun hB=>?_) (fun hB=>?_) <;> try (exfalso;omega)))|refine sq ?_|refine rg ?_|refine xc ?_|refine nl ?_|refine sk ?_|refine bk ?_|refine rt ?_|refine xb ?_
  ·exact r1 ⟨⟨i,rfl,fun _=>List.any_eq_true.2 ⟨_,hmem,hB⟩,fun _=>by omega⟩,rfl⟩
  ·refine lp (i + 1) ⟨by omega,fun j hj=>?_⟩
   by_cases e:j = i
   ·rw [e];exact hB
   ·exact h2 j (by omega)
 ·repeat' first|(refine wo ?_;first|(refine ao ?_;first|refine oa ?_)|refine oa ?_)|(refine gc ?_;first|(refine ci (fun hB=>?_) (fun hB=>?_) <;> try (exfalso;omega)))|refine sq ?_|refine rg ?_|refine xc ?_|refine nl ?_|refine xe ?_|refine rt ?_
  refine r1 ⟨⟨-1,rfl,by omega,fun h=>?_⟩,rfl⟩
  obtain ⟨l,hl1,hl2⟩:=List.any_eq_true.1 h
  obtain ⟨j,hj,rfl⟩:=List.mem_iff_getElem.1 hl1
  have:=h2 j (by omega)
  simp [List.getD_eq_getElem?_getD,hj,hl2] at this
theorem ContainsFunc_tr (s:Value) (hs:List Value) (ls:List (List Int)) (f:FuncId) (cap:List Value) (pre:List Ch) (p:List Int→Bool)
  (hp:∀ c ∈ pre,∀ A:List Ch,c ∈ A→Has A c) (hf:∀ h l,l ∈ ls→Tr Tryz.prog f (h :: cap) (vw h (Is l) :: pre) [] fun v D=>v = .bool (p l)∧D = []) :
  Tr Tryz.prog 188 [s,.func (.func f) #[] cap.toArray] (vw s hs :: vels hs ls :: pre) [] fun v D=>v = .bool (ls.any p)∧D = []:=by
 refine Tr.enter env _ Tryz.func188 (by kernel_rfl) rfl Tryz.ntmps188 rfl (has01 (has01 fun c hc b=>⟨(hp c hc [c] (by simp)).wr b,(hp c hc [c] (by simp)).rd b⟩)) fun w0=>?_
 repeat' first|(refine gca ?_;first|(refine ca (vs:=[s,.func (.func f) #[] cap.toArray]) (IndexFunc_tr s hs ls f cap pre p hp hf) ?_ rfl Fit.nil (has1 (has_vw (by simp)) (has1 (has_vels (by simp)) (fun c hc=>hp c hc _ (by simp [hc])))) rfl;rintro _ _ ⟨⟨i,rfl,hi⟩,rfl⟩))|(refine wo ?_;first|(refine ao ?_;first|refine oa ?_)|refine oa ?_)|refine sq ?_|refine rg ?_|refine xc ?_|refine nl ?_|refine rt ?_
 refine r1 ⟨?_,rfl⟩
 congr 1;rw [Bool.eq_iff_iff,decide_eq_true_iff];exact hi
/-! ### In how many symbols two sets meet -/
def meetN (a b:List Int):Nat:=(a.filter fun x=>decide (x ∈ b)).length
end Go.Art
set_option maxRecDepth 4000
namespace Go.Art
open Go Go.Proofs Go.RowKit
attribute [local irreducible] Fit pt own ro vw mpc lpt vels rels mow lrc dfr
def stopE (k:Int) (ls:List (List Int)):Int:=if k < 1∨65536 < k then 3 else if ls.any (fun l=>!isSet k l) then 2 else 0
theorem refuses1_tr (k:Int) (b:Nat) (h:Value) (l:List Int):Tr Tryz.prog 189 [h,ptr b] [vw h (Is l),lpt b [I k] 3] [] fun v D=>v = .bool (!isSet k l)∧D = []:=by
 refine Tr.enter env _ Tryz.func189 (by kernel_rfl) rfl Tryz.ntmps189 rfl (by repeat (first | exact has00 | refine has01 ?_)) fun w0=>?_
 repeat' first|(refine gca ?_;first|(refine ca (fine_tr _ _ _) ?_;rintro _ _ ⟨rfl,rfl⟩))|(refine wo ?_;first|refine oa ?_|refine ldl ?_)|refine sq ?_|refine rg ?_|refine xc ?_|refine nl ?_|refine rt ?_
 exact r1 ⟨rfl,rfl⟩
theorem lpt_hasS {b:Nat} {cs:List Value} {T:TypeId}:∀ c ∈ [lpt b cs T],∀ A:List Ch,c ∈ A→Has A c:=fun c hc A h=>by
 obtain rfl:c = lpt b cs T:=by simpa using hc
 exact has_lpt h
theorem refuses_tr (k:Int) (s:Value) (hs:List Value) (ls:List (List Int)):Tr Tryz.prog 133 [I k,s] [vw s hs,vels hs ls] [] fun v D=>v = I (stopE k ls)∧D = []:=by
 refine Tr.enter env _ Tryz.func133 (by kernel_rfl) rfl Tryz.ntmps133 rfl (by repeat (first | exact has00 | refine has01 ?_)) fun w0=>?_
 repeat' first|(refine gca ?_;first|(refine ca (ContainsFunc_tr s hs ls _ [ptr b] [lpt b [I k] 3] (fun l=>!isSet k l) lpt_hasS (fun h l _=>refuses1_tr k b h l)) ?_;rintro _ _ ⟨rfl,rfl⟩))|refine bx1 fun b=>?_|(refine wo ?_;first|(refine ao ?_;first|refine oa ?_)|refine oa ?_|refine ld ?_|refine gy ?_|refine gn ?_|(refine gsi (fun hB=>?_) (fun hB=>?_) <;> try (exfalso;omega)))|(refine gc ?_;first|refine ct ?_|(refine ci (fun hB=>?_) (fun hB=>?_) <;> try (exfalso;omega))|(refine cb (fun hB=>?_) (fun hB=>?_) <;> try (exfalso;omega)))|refine sq ?_|refine rg ?_|refine xc ?_|refine nl ?_|refine sk ?_|refine bk ?_|refine rt ?_|refine xb ?_
 ·exact r1 ⟨by rw [stopE,if_pos (.inl hB)],rfl⟩
 ·exact r1 ⟨by rw [stopE,if_pos (.inr hB)],rfl⟩
 ·exact r1 ⟨by rw [stopE,if_neg (by omega),if_pos hB],rfl⟩
 ·exact r1 ⟨by rw [stopE,if_neg (by omega),if_neg (by rw [hB];decide)],rfl⟩
/-! ### Stopping sets -/
theorem upFrom_sorted {k:Int}:∀ {l:List Int} {a:Int},upFrom k a l = true→(∀ i,i < l.length→a < l.getD i 0∧l.getD i 0 < k)∧∀ i j,i < j→j < l.length→l.getD i 0 < l.getD j 0
 | [],_,_=>⟨fun i h=>by simp at h,fun i j _ h=>by simp at h⟩
 | x :: r,a,h=>by
  simp only [upFrom,Bool.and_eq_true,decide_eq_true_eq] at h
  obtain ⟨h1,h2⟩:=upFrom_sorted h.2.2
  constructor
  ·intro i hi
   cases i with
   | zero=>exact ⟨h.1,h.2.1⟩
   | succ i=>have:=h1 i (by simpa using hi);simp only [List.getD_cons_succ];omega
  ·intro i j hij hj
   cases j with
   | zero=>omega
   | succ j=>
    cases i with
    | zero=>have:=h1 j (by simpa using hj);simp only [List.getD_cons_succ,List.getD_cons_zero];omega
    | succ i=>simp only [List.getD_cons_succ];exact h2 i j (by omega) (by simpa using hj)
theorem upFrom_len {k:Int}:∀ {l:List Int} {a:Int},upFrom k a l = true→(l.length:Int) ≤ k - 1 - a∨l = []
 | [],_,_=>.inr rfl
 | x :: r,a,h=>by
  simp only [upFrom,Bool.and_eq_true,decide_eq_true_eq] at h
  rcases upFrom_len h.2.2 with h1 | h1
  ·left;simp only [List.length_cons];omega
  ·subst h1;left;simp only [List.length_cons,List.length_nil];omega
theorem isSet_sorted {k:Int} {l:List Int} (h:isSet k l = true):(∀ i,i < l.length→0 ≤ l.getD i 0∧l.getD i 0 < k)∧∀ i j,i < j→j < l.length→l.getD i 0 < l.getD j 0:=by
 simp only [isSet,Bool.and_eq_true] at h
 have:=upFrom_sorted h.1
 exact ⟨fun i hi=>by have:=this.1 i hi;omega,this.2⟩
theorem isSet_len {k:Int} {l:List Int} (h:isSet k l = true):(l.length:Int) ≤ k:=by
 simp only [isSet,Bool.and_eq_true,decide_eq_true_eq] at h
 rcases upFrom_len h.1 with h1 | h1
 ·omega
 ·subst h1;simp at h
def isStop (ls:List (List Int)) (t:List Int):Bool:=!ls.any fun l=>decide ((meetN l t:Int) = 1)
def stopping (k:Int) (ls:List (List Int)) (t:List Int):Bool × Int:=if stopE k ls ≠ 0 then (false,stopE k ls) else if isSet k t = false then (false,2) else (isStop ls t,0)
end Go.Art
set_option maxRecDepth 4000
namespace Go.Art
open Go Go.Proofs Go.RowKit
attribute [local irreducible] Fit pt own ro vw mpc lpt vels rels mow lrc dfr
def meetC (l t:List Int):Nat:=(t.map fun x=>l.count x).sum
theorem nodup_sorted {l:List Int} (h:∀ i j,i < j→j < l.length→l.getD i 0 < l.getD j 0):l.Nodup:=by
 rw [List.nodup_iff_pairwise_ne,List.pairwise_iff_getElem]
 intro i j hi hj hij e
 have:=h i j hij hj
 simp [List.getD_eq_getElem?_getD,hi,hj,e] at this
end Go.Art
set_option maxRecDepth 4000
namespace Go.Art
open Go
inductive Kn (ls:List (List Int)):Int→Prop
 | mk (l:List Int) (s:Int) (hl:l ∈ ls) (hs:s ∈ l) (h:∀ x ∈ l,x ≠ s→Kn ls x):Kn ls s
def cnt (p:Int→Bool) (l:List Int):Nat:=(l.filter p).length
theorem cnt_one {p:Int→Bool} {l:List Int} (h:cnt p l = 1):∃ s,s ∈ l∧p s = true∧∀ x ∈ l,p x = true→x = s:=by
 unfold cnt at h
 obtain ⟨s,hs⟩:=List.length_eq_one_iff.1 h
 have hm:∀ x,x ∈ l∧p x = true ↔ x = s:=fun x=>by rw [← List.mem_filter,hs];simp
 exact ⟨s,((hm s).2 rfl).1,((hm s).2 rfl).2,fun x hx hp=>(hm x).1 ⟨hx,hp⟩⟩
theorem cnt_one_of {p:Int→Bool} {l:List Int} (hn:l.Nodup) {s:Int} (hs:s ∈ l) (hp:p s = true) (h:∀ x ∈ l,x ≠ s→p x = false):cnt p l = 1:=by
 have hm:∀ x,x ∈ l.filter p ↔ x = s:=fun x=>by
  rw [List.mem_filter]
  constructor
  ·rintro ⟨h1,h2⟩
   by_cases e:x = s
   ·exact e
   ·rw [h x h1 e] at h2;cases h2
  ·rintro rfl;exact ⟨hs,hp⟩
 have hnd:(l.filter p).Nodup:=hn.sublist List.filter_sublist
 unfold cnt
 cases hf:l.filter p with
 | nil=>have:=(hm s).2 rfl;rw [hf] at this;cases this
 | cons a r=>
  rw [hf] at hm hnd
  cases r with
  | nil=>rfl
  | cons b r=>
   have h1:=(hm a).1 (by simp)
   have h2:=(hm b).1 (by simp)
   simp [h1,h2] at hnd
theorem Kn.not {ls:List (List Int)} {p:Int→Bool} (hn:∀ l ∈ ls,l.Nodup) (h:∀ l ∈ ls,cnt p l ≠ 1) {s:Int} (hk:Kn ls s):p s = false:=by
 induction hk with
 | mk l s hl hs _ ih=>
  cases hp:p s with
  | false=>rfl
  | true=>exact absurd (cnt_one_of (hn l hl) hs hp ih) (h l hl)
theorem Kn.mono {ls ls':List (List Int)} (h:∀ l ∈ ls,l ∈ ls') {s:Int} (hk:Kn ls s):Kn ls' s:=by
 induction hk with
 | mk l s hl hs _ ih=>exact .mk l s (h l hl) hs ih
theorem Kn.of_cnt {ls:List (List Int)} {p:Int→Bool} {l:List Int} (hl:l ∈ ls) (h:cnt p l = 1) (hp:∀ x ∈ l,p x = false→Kn ls x) {s:Int} (hs:s ∈ l) (hps:p s = true):Kn ls s:=by
 obtain ⟨s',h1,h2,h3⟩:=cnt_one h
 obtain rfl:=h3 s hs hps
 exact .mk l s hl hs fun x hx hne=>hp x hx (by
  cases hq:p x with
  | false=>rfl
  | true=>exact absurd (h3 x hx hq) hne)
def belowI (k:Int):List Int:=(List.range k.toNat).map (fun i:Nat=>(i:Int))
theorem belowI_len (k:Int):(belowI k).length = k.toNat:=by simp [belowI]
theorem mem_belowI {k x:Int}:x ∈ belowI k ↔ 0 ≤ x∧x < k:=by
 simp only [belowI,List.mem_map,List.mem_range]
 constructor
 ·rintro ⟨i,h,rfl⟩;omega
 ·rintro ⟨h1,h2⟩;exact ⟨x.toNat,by omega,by omega⟩
theorem belowI_sorted (k:Int):(belowI k).Pairwise (· < ·):=by
 unfold belowI
 rw [List.pairwise_map]
 exact List.pairwise_lt_range.imp fun h=>by omega
open Classical in
noncomputable def knownL (k:Int) (ls:List (List Int)):List Int:=(belowI k).filter fun s=>decide (Kn ls s)
open Classical in
noncomputable def largeL (k:Int) (ls:List (List Int)):List Int:=(belowI k).filter fun s=>!decide (Kn ls s)
theorem known_of {k:Int} {ls:List (List Int)} (p:Int→Bool) (h:∀ s,0 ≤ s→s < k→(p s = true ↔ ¬ Kn ls s)):knownL k ls = (belowI k).filter (fun s=>!p s)∧largeL k ls = (belowI k).filter p:=by
 constructor
 ·refine List.filter_congr fun s hs=>?_
  have:=h s (mem_belowI.1 hs).1 (mem_belowI.1 hs).2
  cases hp:p s <;> simp_all
 ·refine List.filter_congr fun s hs=>?_
  have:=h s (mem_belowI.1 hs).1 (mem_belowI.1 hs).2
  cases hp:p s <;> simp_all
theorem isSet_of {k:Int}:∀ {l:List Int} {a:Int},(a :: l).Pairwise (· < ·)→(∀ x ∈ l,x < k)→upFrom k a l = true
 | [],_,_,_=>rfl
 | x :: r,a,h,hk=>by
  obtain ⟨h1,h2⟩:=List.pairwise_cons.1 h
  simp only [upFrom,Bool.and_eq_true,decide_eq_true_eq]
  exact ⟨h1 x (by simp),hk x (by simp),isSet_of h2 fun y hy=>hk y (by simp [hy])⟩
theorem isSet_iff {k:Int} {l:List Int}:isSet k l = true ↔ l ≠ []∧l.Pairwise (· < ·)∧∀ x ∈ l,0 ≤ x∧x < k:=by
 constructor
 ·intro h
  have h1:=isSet_sorted h
  refine ⟨fun e=>by subst e;simp [isSet] at h,?_,fun x hx=>?_⟩
  ·rw [List.pairwise_iff_getElem]
   intro i j hi hj hij
   have:=h1.2 i j hij hj
   simpa [List.getD_eq_getElem?_getD,hi,hj] using this
  ·obtain ⟨i,hi,rfl⟩:=mem_getD.1 hx;exact h1.1 i hi
 ·rintro ⟨h1,h2,h3⟩
  simp only [isSet,Bool.and_eq_true,decide_eq_true_eq]
  exact ⟨isSet_of (List.pairwise_cons.2 ⟨fun x hx=>by have:=h3 x hx;omega,h2⟩) fun x hx=>(h3 x hx).2,List.length_pos_iff.2 h1⟩
theorem isSet_nodup {k:Int} {l:List Int} (h:isSet k l = true):l.Nodup:=nodup_sorted (isSet_sorted h).2
theorem cnt_drop {p q:Int→Bool} {s:Int} (hs:p s = true) (hq:q s = false) (h:∀ x,x ≠ s→q x = p x):∀ {l:List Int},l.Nodup→cnt p l = cnt q l + if s ∈ l then 1 else 0
 | [],_=>rfl
 | x :: r,hn=>by
  obtain ⟨h1,h2⟩:=List.nodup_cons.1 hn
  have ih:=cnt_drop hs hq h h2
  unfold cnt at ih ⊢
  rw [List.filter_cons,List.filter_cons]
  by_cases e:x = s
  ·subst e
   rw [if_pos hs,if_neg (by simp [hq]),List.length_cons,ih,if_neg h1,if_pos (by simp)]
  ·rw [h x e]
   have hm:s ∈ x :: r ↔ s ∈ r:=by simp [Ne.symm e]
   simp only [hm]
   cases p x <;> simp <;> omega
theorem stopE_zero {k:Int} {ls:List (List Int)} (h:stopE k ls = 0):1 ≤ k∧k ≤ 65536∧∀ l ∈ ls,isSet k l = true:=by
 unfold stopE at h
 split at h
 ·cases h
 ·split at h
  ·cases h
  ·rename_i h1 h2
   refine ⟨by omega,by omega,fun l hl=>?_⟩
   cases hs:isSet k l with
   | true=>rfl
   | false=>exact absurd (List.any_eq_true.2 ⟨l,hl,by simp [hs]⟩) h2
open Go Go.Proofs Go.RowKit
open Classical in
noncomputable def corF (φ:Nat→Rat) (U:List Int) (ls:List (List Int)):Rat:=φ (U.filter fun s=>!decide (Kn (ls.map fun l=>l.filter fun x=>U.contains x) s)).length
theorem Kn.iff {ls ls':List (List Int)} (h:∀ l,l ∈ ls ↔ l ∈ ls') (s:Int):Kn ls s ↔ Kn ls' s:=⟨Kn.mono fun l hl=>(h l).1 hl,Kn.mono fun l hl=>(h l).2 hl⟩
theorem Kn.skip {ls:List (List Int)} {s:Int} (h:Kn ([] :: ls) s):Kn ls s:=by
 induction h with
 | mk l s hl hs _ ih=>
  rcases List.mem_cons.1 hl with rfl | hl
  ·cases hs
  ·exact .mk l s hl hs ih
theorem Kn.one_iff {U l:List Int} {ls:List (List Int)} {s:Int} (hU:U.Nodup) (hs:s ∈ U) (hl:∀ x,x ∈ l∧x ∈ U ↔ x = s) (x:Int) :
  Kn ((l :: ls).map fun l=>l.filter fun x=>U.contains x) x ↔ x = s∨Kn (ls.map fun l=>l.filter fun x=>(U.erase s).contains x) x:=by
 have hm:∀ (l:List Int) (z:Int),z ∈ l.filter (fun x=>U.contains x) ↔ z ∈ l∧z ∈ U:=fun l z=>by rw [List.mem_filter];simp
 have hm':∀ (l:List Int) (z:Int),z ∈ l.filter (fun x=>(U.erase s).contains x) ↔ z ∈ l∧z ≠ s∧z ∈ U:=fun l z=>by rw [List.mem_filter];simp [hU.mem_erase_iff]
 have hks:Kn ((l :: ls).map fun l=>l.filter fun x=>U.contains x) s:=.mk (l.filter fun x=>U.contains x) s (by simp) ((hm l s).2 ((hl s).2 rfl)) fun y hy hne=>absurd ((hl y).1 ((hm l y).1 hy)) hne
 constructor
 ·intro h
  induction h with
  | mk l0 x hl0 hx _ ih=>
   obtain ⟨l1,h1,rfl⟩:=List.mem_map.1 hl0
   obtain ⟨g1,g2⟩:=(hm l1 x).1 hx
   rcases List.mem_cons.1 h1 with rfl | h1
   ·exact .inl ((hl x).1 ⟨g1,g2⟩)
   ·by_cases e:x = s
    ·exact .inl e
    ·refine .inr (.mk (l1.filter fun x=>(U.erase s).contains x) x (List.mem_map.2 ⟨l1,h1,rfl⟩) ((hm' l1 x).2 ⟨g1,e,g2⟩) fun y hy hne=>?_)
     obtain ⟨k1,k2,k3⟩:=(hm' l1 y).1 hy
     exact (ih y ((hm l1 y).2 ⟨k1,k3⟩) hne).resolve_left k2
 ·rintro (rfl | h)
  ·exact hks
  ·induction h with
   | mk l0 x hl0 hx _ ih=>
    obtain ⟨l1,h1,rfl⟩:=List.mem_map.1 hl0
    obtain ⟨g1,g2,g3⟩:=(hm' l1 x).1 hx
    refine .mk (l1.filter fun x=>U.contains x) x (List.mem_map.2 ⟨l1,List.mem_cons_of_mem _ h1,rfl⟩) ((hm l1 x).2 ⟨g1,g3⟩) fun y hy hne=>?_
    obtain ⟨k1,k2⟩:=(hm l1 y).1 hy
    by_cases e:y = s
    ·rw [e];exact hks
    ·exact ih y ((hm' l1 y).2 ⟨k1,e,k2⟩) hne
open Classical in
theorem cor_core {k:Nat} {X:List (List Int)} (φ:Nat→Rat) (hX:∀ l ∈ X,l.Nodup):Core k X φ (corF φ):=by
 refine ⟨fun U l m h=>?_,fun U l ls h=>?_,fun U l ls s _ hs hU hl=>?_,fun U ls hU _ h=>?_⟩
 ·unfold corF
  congr 2
  refine List.filter_congr fun s _=>?_
  have:=Kn.iff (ls:=l.map fun l=>l.filter fun x=>U.contains x) (ls':=m.map fun l=>l.filter fun x=>U.contains x) (fun z=>by simp only [List.mem_map,h.mem_iff]) s
  exact congrArg (fun b=>!b) (decide_eq_decide.2 this)
 ·unfold corF
  congr 2
  refine List.filter_congr fun s _=>?_
  have h0:l.filter (fun x=>U.contains x) = []:=List.eq_nil_of_length_eq_zero h
  have:Kn ((l :: ls).map fun l=>l.filter fun x=>U.contains x) s ↔ Kn (ls.map fun l=>l.filter fun x=>U.contains x) s:=by
   rw [List.map_cons,h0]
   exact ⟨Kn.skip,Kn.mono fun l hl=>List.mem_cons_of_mem _ hl⟩
  exact congrArg (fun b=>!b) (decide_eq_decide.2 this)
 ·unfold corF
  congr 1
  rw [hU.erase_eq_filter,List.filter_filter,← hU.erase_eq_filter]
  congr 1
  refine List.filter_congr fun x _=>?_
  have:=Kn.one_iff (ls:=ls) hU hs hl x
  by_cases e:x = s
  ·rw [decide_eq_true (this.2 (.inl e))];subst e;simp
  ·rw [decide_eq_decide.2 (this.trans ⟨fun h=>h.resolve_left e,.inr⟩)];rw [show (x != s) = true from bne_iff_ne.2 e,Bool.and_true]
 ·unfold corF
  congr 2
  refine List.filter_eq_self.2 fun s hs=>?_
  have:¬ Kn (ls.map fun l=>l.filter fun x=>U.contains x) s:=fun hk=>by
   have:=hk.not (p:=fun x=>U.contains x) (fun l hl=>?_) fun l hl=>?_
   ·simp [hs] at this
   ·obtain ⟨l1,h1,rfl⟩:=List.mem_map.1 hl
    exact (hX l1 (h l1 h1).1).sublist List.filter_sublist
   ·obtain ⟨l1,h1,rfl⟩:=List.mem_map.1 hl
    have h2:=(h l1 h1).2
    unfold cnt
    rw [List.filter_filter]
    simp only [Bool.and_self]
    unfold cU at h2
    omega
  show (!decide _) = true
  rw [decide_eq_false this];rfl
theorem cor_all {φ:Nat→Rat} {k:Nat} {ls:List (List Int)} (h:∀ l ∈ ls,∀ x ∈ l,0 ≤ x∧x < (k:Int)):corF φ (belowI k) ls = φ (largeL k ls).length:=by
 unfold corF largeL
 have:(ls.map fun l=>l.filter fun x=>(belowI k).contains x) = ls:=by
  conv=>rhs;rw [← List.map_id ls]
  refine List.map_congr_left fun l hl=>List.filter_eq_self.2 fun x hx=>?_
  have:=mem_belowI.2 (h l hl x hx)
  simpa using this
 rw [this]
theorem ev_all {m k:Nat} {ω:Nat→Rat}:∀ S ∈ evX m k ω,cU (belowI k) S.1 = S.1.length∧(∀ x ∈ S.1,0 ≤ x∧x < (k:Int))∧1 ≤ S.1.length:=fun S hS=>by
 obtain ⟨_,i,hi,h2,_⟩:=ev_nd S hS
 have h3:=ris_hi h2
 have h4:∀ x ∈ S.1,0 ≤ x∧x < (k:Int):=fun x hx=>⟨by have:=ris_lo h2 x hx;omega,h3.2 x hx⟩
 refine ⟨?_,h4,by omega⟩
 unfold cU
 rw [List.filter_eq_self.2 fun x hx=>by simpa using mem_belowI.2 (h4 x hx)]
theorem ev_belowI (k:Nat):(belowI (k:Int)).Pairwise (· < ·)∧(belowI (k:Int)).length = k∧∀ x ∈ belowI (k:Int),0 ≤ x∧x < (k:Int):=
 ⟨belowI_sorted k,by rw [belowI_len];rfl,fun x hx=>mem_belowI.1 hx⟩
theorem evI_one (m k:Nat) (ω:Nat→Rat):evI m k ω k 1 = (k:Rat) * sR (fun i=>ω i * fillC (k - k) (i + 1) 1) (List.range m):=by
 unfold evI
 rw [← sR_mul]
 refine sR_congr fun i _=>?_
 rw [chs_one];grind
theorem ev_lack {m k:Nat} {ω:Nat→Rat} (h1:sR (·.2) (evX m k ω) = 1):1 - evI m k ω k 1 = evQ m k ω k:=by
 obtain ⟨hU,hl,hin⟩:=ev_belowI k
 have hT:=ev_one (m:=m) (ω:=ω) hU hin fun _=>1
 rw [hl] at hT
 rw [evI_one]
 have hQ:=(ev_even m k ω).cloud (belowI k) hU hin
 rw [hl] at hQ
 rw [← hQ,← h1]
 unfold clo
 rw [sR_const,hl,Rat.mul_one] at hT
 rw [sR_filter (·.2) (fun S=>decide (2 ≤ cU (belowI k) S.1)) (evX m k ω),Rat.mul_comm,← hT]
 have h3:((evX m k ω).filter fun S=>!decide (2 ≤ cU (belowI k) S.1)) = (evX m k ω).filter fun S=>decide (cU (belowI k) S.1 = 1):=List.filter_congr fun S hS=>by
  have:=ev_all S hS
  rw [Bool.eq_iff_iff];simp;omega
 rw [h3,sR_congr (f:=fun S:List Int × Rat=>S.2 * 1) (g:=(·.2)) fun S _=>Rat.mul_one _]
 grind
theorem evQ_le {m k:Nat} {ω:Nat→Rat} (hω:∀ i,i < m→0 ≤ ω i) (h1:sR (·.2) (evX m k ω) = 1) {u:Nat} (hu:u ≤ k):evQ m k ω u ≤ 1:=by
 obtain ⟨_,hl,_⟩:=ev_belowI u
 have hQ:=(ev_even m k ω).cloud (belowI u) (belowI_sorted u) fun x hx=>by have:=mem_belowI.1 hx;omega
 rw [hl] at hQ
 rw [← hQ,← h1]
 unfold clo
 rw [sR_filter (·.2) (fun S=>decide (2 ≤ cU (belowI u) S.1)) (evX m k ω)]
 have:0 ≤ sR (·.2) ((evX m k ω).filter fun S=>!decide (2 ≤ cU (belowI u) S.1)):=sR_nonneg fun S hS=>by
  obtain ⟨_,i,hi,_,h4⟩:=ev_nd S (List.mem_filter.1 hS).1
  rw [h4];exact hω i hi
 grind
theorem ripple_sets {m k:Nat} {ω:Nat→Rat} (φ:Nat→Rat) (hω:∀ i,i < m→0 ≤ ω i) (h1:sR (·.2) (evX m k ω) = 1) (n:Nat) :
  sR (fun u=>φ u * stuckR n u (lvR (evI m k ω k 1) (freeR m k ω) n k (k - u))) (List.range (k + 1)) = tG (evX m k ω) n fun ls=>φ (largeL k ls).length:=by
 obtain ⟨hU,hl,hin⟩:=ev_belowI k
 have hT:=ev_one (m:=m) (ω:=ω) hU hin
 rw [hl] at hT
 refine (ripple_true (cor_core φ fun l hl=>?_) (ev_even m k ω) (fun u hu=>free_one hω hu) (fun u hu=>free_two hω hu) hU hl hin (fun S hS=>?_) hT (evI_one m k ω) (ev_lack h1) n).trans (tG_congr fun ls _ hls=>cor_all fun l hl x hx=>?_)
 ·obtain ⟨S,hS,rfl⟩:=List.mem_map.1 hl
  exact sorted_nd (ev_nd S hS).1
 ·rw [(ev_all S hS).1];exact (ev_all S hS).2.2
 ·obtain ⟨w,hw⟩:=hls l hl
  exact (ev_all _ hw).2.1 x hx
open Go Go.Proofs Go.RowKit
/-! Fractions over one number, and how large they are. -/
def FrQ (E:Nat) (q:Rat):Prop:=∃ a:Nat,q = (a:Rat) / (E:Rat)
theorem nz {n:Nat} (h:n ≠ 0):(n:Rat) ≠ 0:=fun e=>h (by have:(n:Rat) = ((0:Nat):Rat):=e;exact Rat.natCast_inj.1 this)
theorem FrQ.zero (E:Nat):FrQ E 0:=⟨0,by rw [show ((0:Nat):Rat) = 0 from rfl];grind⟩
theorem FrQ.nonneg {E:Nat} {q:Rat} (h:FrQ E q):0 ≤ q:=by
 obtain ⟨a,rfl⟩:=h
 rw [Rat.div_def]
 refine Rat.mul_nonneg (natR_nonneg a) ?_
 rcases Nat.eq_zero_or_pos E with h | h
 ·subst h;rw [show ((0:Nat):Rat) = 0 from rfl,Rat.inv_zero];exact Rat.le_refl
 ·exact Rat.le_of_lt (Rat.inv_pos.2 (by exact_mod_cast h))
theorem FrQ.mul {E D:Nat} {q r:Rat} (h:FrQ E q) (k:FrQ D r):FrQ (E * D) (q * r):=by
 obtain ⟨a,rfl⟩:=h
 obtain ⟨b,rfl⟩:=k
 refine ⟨a * b,?_⟩
 push_cast
 rw [Rat.div_def,Rat.div_def,Rat.div_def,Rat.inv_mul_rev];grind
theorem FrQ.add {E:Nat} {q r:Rat} (h:FrQ E q) (k:FrQ E r):FrQ E (q + r):=by
 obtain ⟨a,rfl⟩:=h
 obtain ⟨b,rfl⟩:=k
 refine ⟨a + b,?_⟩
 push_cast;rw [Rat.div_def,Rat.div_def,Rat.div_def];grind
theorem FrQ.up {E:Nat} {q:Rat} (h:FrQ E q) (m:Nat) (hm:m ≠ 0):FrQ (E * m) q:=by
 obtain ⟨a,rfl⟩:=h
 refine ⟨a * m,?_⟩
 have:=nz hm
 push_cast
 rw [Rat.div_def,Rat.div_def,Rat.inv_mul_rev];grind
theorem FrQ.pow {E:Nat} {q:Rat} (h:FrQ E q):∀ i,FrQ (E ^ i) (q ^ i)
 | 0=>⟨1,by rw [Nat.pow_zero,Rat.pow_zero,show ((1:Nat):Rat) = 1 from rfl];grind⟩
 | i + 1=>by rw [Nat.pow_succ,Rat.pow_succ];exact (FrQ.pow h i).mul h
theorem FrQ.nat (a:Nat):FrQ 1 (a:Rat):=⟨a,by rw [show ((1:Nat):Rat) = 1 from rfl];grind⟩
theorem FrQ.self (q:Rat) (h:0 ≤ q):FrQ q.den q:=by
 have hn:0 ≤ q.num:=Rat.num_nonneg.2 h
 refine ⟨q.num.toNat,?_⟩
 have e:((q.num.toNat:Nat):Rat) = (q.num:Rat):=by
  have:((q.num.toNat:Nat):Int) = q.num:=Int.toNat_of_nonneg hn
  rw [← Rat.intCast_natCast,this]
 rw [e]
 exact (Rat.mkRat_self q).symm.trans (Rat.mkRat_eq_div _ _)
theorem div_le1 {a E:Rat} (hE:0 < E) (h:a / E ≤ 1):a ≤ E:=by
 have h1:=Rat.mul_le_mul_of_nonneg_right h (Rat.le_of_lt hE)
 rw [Rat.one_mul] at h1
 have h2:E ≠ 0:=fun e=>by rw [e] at hE;exact Rat.lt_irrefl hE
 have:a / E * E = a:=by grind
 rwa [this] at h1
theorem le_div1 {a E:Rat} (hE:0 < E) (h:a ≤ E):a / E ≤ 1:=by
 have h1:=Rat.mul_le_mul_of_nonneg_right h (Rat.le_of_lt (Rat.inv_pos.2 hE))
 have h2:E ≠ 0:=fun e=>by rw [e] at hE;exact Rat.lt_irrefl hE
 have:E * E⁻¹ = 1:=by grind
 rw [this] at h1
 rwa [Rat.div_def]
theorem FrQ.lack {E:Nat} {q:Rat} (h:FrQ E q) (hE:E ≠ 0) (h1:q ≤ 1):FrQ E (1 - q):=by
 obtain ⟨a,rfl⟩:=h
 have h0:=nz hE
 have hle:a ≤ E:=by
  have h2:(0:Rat) < (E:Rat):=by exact_mod_cast Nat.pos_of_ne_zero hE
  have:=div_le1 h2 h1
  exact_mod_cast this
 refine ⟨E - a,?_⟩
 have:((E - a:Nat):Rat) = (E:Rat) - (a:Rat):=by
  have:((E - a + a:Nat):Rat) = (E:Rat):=by rw [Nat.sub_add_cancel hle]
  push_cast at this;grind
 rw [this];grind
theorem FrQ.le {E:Nat} {q:Rat} (h:FrQ E q) (hE:E ≠ 0) (h1:q ≤ 1):∃ a,a ≤ E∧q = (a:Rat) / (E:Rat):=by
 obtain ⟨a,rfl⟩:=h
 refine ⟨a,?_,rfl⟩
 have h2:(0:Rat) < (E:Rat):=by exact_mod_cast Nat.pos_of_ne_zero hE
 have:=div_le1 h2 h1
 exact_mod_cast this
theorem pow_nonnegR {q:Rat} (h:0 ≤ q):∀ i:Nat,0 ≤ q ^ i
 | 0=>by rw [Rat.pow_zero];decide
 | i + 1=>by rw [Rat.pow_succ];exact Rat.mul_nonneg (pow_nonnegR h i) h
theorem pow_leR {q:Rat} (h:0 ≤ q) (h1:q ≤ 1):∀ i:Nat,q ^ i ≤ 1
 | 0=>by rw [Rat.pow_zero];exact Rat.le_refl
 | i + 1=>by
  rw [Rat.pow_succ]
  have:=Rat.mul_le_mul_of_nonneg_right (pow_leR h h1 i) h
  grind
/-! Chances. -/
structure Ch01 (F:Nat) (p:Rat):Prop where
 fr:FrQ F p
 le:p ≤ 1
 nz:F ≠ 0
theorem shar_nonneg {F:Nat} {p:Rat} (h:Ch01 F p) (m s:Nat):0 ≤ shar p m s:=by
 unfold shar
 have h1:=h.le
 exact Rat.mul_nonneg (Rat.mul_nonneg (natR_nonneg _) (pow_nonnegR h.fr.nonneg _)) (pow_nonnegR (by grind) _)
theorem le_sR {α:Type} {f:α→Rat}:∀ {l:List α} {a:α},(∀ x ∈ l,0 ≤ f x)→a ∈ l→f a ≤ sR f l
 | b :: l,a,h,hm=>by
  have h1:=h b (by simp)
  have h2:=sR_nonneg (l:=l) fun x hx=>h x (by simp [hx])
  simp only [sR]
  rcases List.mem_cons.1 hm with rfl | hm
  ·grind
  ·have:=le_sR (l:=l) (fun x hx=>h x (by simp [hx])) hm
   grind
theorem shar_sum (p:Rat) (m:Nat):sR (fun s=>shar p m s) (List.range (m + 1)) = 1:=by
 have:=bsum_shar p m fun _=>1
 rw [sR_congr (g:=fun s=>shar p m s) fun s _=>Rat.mul_one _] at this
 rw [this,bsum_congr (g:=fun a=>p ^ a * (1 - p) ^ (m - a)) fun a _=>Rat.mul_one _,bsum_pow,show p + (1 - p) = 1 by grind,one_powR]
theorem shar_le {F:Nat} {p:Rat} (h:Ch01 F p) {m s:Nat} (hs:s ≤ m):shar p m s ≤ 1:=by
 rw [← shar_sum p m]
 exact le_sR (fun x _=>shar_nonneg h m x) (List.mem_range.2 (by omega))
theorem shar_fr {F:Nat} {p:Rat} (h:Ch01 F p) {m s n:Nat} (hs:s ≤ m) (hm:m ≤ n):FrQ (F ^ n) (shar p m s):=by
 have h1:=((FrQ.nat (chs m s)).mul (h.fr.pow s)).mul ((h.fr.lack h.nz h.le).pow (m - s))
 rw [Nat.one_mul,← Nat.pow_add,show s + (m - s) = m by omega] at h1
 have h2:=h1.up (F ^ (n - m)) (Nat.ne_of_gt (Nat.pow_pos (Nat.pos_of_ne_zero h.nz)))
 rw [← Nat.pow_add,show m + (n - m) = n by omega] at h2
 exact h2
/-! Levels. -/
structure Lv (n E:Nat) (l:List Rat):Prop where
 len:l.length = (n + 1) * (n + 1)
 fr:∀ i,i < (n + 1) * (n + 1)→FrQ E (l.getD i 0)
def tot (n:Nat) (l:List Rat):Rat:=dot n (fun _ _=>1) l
theorem tot_eq (n:Nat) (l:List Rat):tot n l = sR (fun i=>l.getD i 0) (List.range ((n + 1) * (n + 1))):=sR_congr fun i _=>by unfold dotF;exact Rat.mul_one _
theorem Lv.le_tot {n E:Nat} {l:List Rat} (h:Lv n E l) {i:Nat} (hi:i < (n + 1) * (n + 1)):l.getD i 0 ≤ tot n l:=by
 rw [tot_eq]
 exact le_sR (f:=fun i=>l.getD i 0) (fun x hx=>(h.fr x (List.mem_range.1 hx)).nonneg) (List.mem_range.2 hi)
theorem Lv.set {n E:Nat} {l:List Rat} (h:Lv n E l) {j:Nat} (hj:j < (n + 1) * (n + 1)) {x:Rat} (hx:FrQ E x):Lv n E (l.set j x):=
 ⟨by rw [List.length_set,h.len],fun i hi=>by
  rw [getD_setR _ _ _ _ (by rw [h.len];exact hj)]
  split
  ·exact hx
  ·exact h.fr i hi⟩
theorem Lv.add {n E:Nat} {l:List Rat} (h:Lv n E l) {j:Nat} (hj:j < (n + 1) * (n + 1)) {x:Rat} (hx:FrQ E x):Lv n E (addAt l j x):=h.set hj ((h.fr j hj).add hx)
theorem Lv.zero (n E:Nat):Lv n E (List.replicate ((n + 1) * (n + 1)) 0):=⟨by simp,fun i _=>by rw [getD_repl];exact FrQ.zero E⟩
theorem tot_add {n E:Nat} {l:List Rat} (h:Lv n E l) {j:Nat} (hj:j < (n + 1) * (n + 1)) (x:Rat):tot n (addAt l j x) = tot n l + x:=by
 unfold tot;rw [dot_addAt h.len hj,Rat.mul_one]
theorem tot_next {n:Nat} {f g:Rat} {x:List Rat} (hx:Supp n x):tot n (nextR f g n x) = sR (fun i=>if i % (n + 1) = 0 then 0 else x.getD i 0) (List.range ((n + 1) * (n + 1))):=by
 unfold tot
 rw [next_dot hx]
 refine sR_congr fun i _=>?_
 split
 ·rfl
 ·rw [bsum_congr (g:=fun a=>f ^ a * (1 - f) ^ (i / (n + 1) - a)) fun a _=>?_,bsum_pow,show f + (1 - f) = 1 by grind,one_powR,Rat.mul_one]
  rw [bsum_congr (g:=fun b=>(f ^ a * (1 - f) ^ (i / (n + 1) - a)) * (g ^ b * (1 - g) ^ (i % (n + 1) - 1 - b))) fun b _=>Rat.mul_one _,bsum_mul,bsum_pow,show g + (1 - g) = 1 by grind,one_powR,Rat.mul_one]
theorem sR_le {α:Type} {f g:α→Rat}:∀ {l:List α},(∀ x ∈ l,f x ≤ g x)→sR f l ≤ sR g l
 | [],_=>Rat.le_refl
 | a :: l,h=>by
  have h1:=h a (by simp)
  have h2:=sR_le (l:=l) fun x hx=>h x (by simp [hx])
  simp only [sR];grind
theorem tot_next_le {n E:Nat} {f g:Rat} {x:List Rat} (hx:Supp n x) (hl:Lv n E x):tot n (nextR f g n x) ≤ tot n x:=by
 rw [tot_next hx,tot_eq]
 refine sR_le fun i hi=>?_
 split
 ·exact (hl.fr i (List.mem_range.1 hi)).nonneg
 ·exact Rat.le_refl
theorem tot_first (p:Rat) (n:Nat):tot n (firstR p n) = 1:=by
 unfold tot
 rw [first_dot,bsum_congr (g:=fun r=>p ^ r * (1 - p) ^ (n - r)) fun r _=>Rat.mul_one _,bsum_pow,show p + (1 - p) = 1 by grind,one_powR]
theorem Lv.first {F:Nat} {p:Rat} (h:Ch01 F p) (n:Nat):Lv n (F ^ n) (firstR p n):=by
 unfold firstR
 refine foldl_inv (Lv n (F ^ n)) (fun r hr l hl=>?_) (Lv.zero n _)
 have hr:=List.mem_range.1 hr
 exact hl.set (place_lt (by omega) (by omega)) (shar_fr h (by omega) (by omega))
/-! The step, as far as it has come. -/
def outN (n:Nat) (f g:Rat) (x:List Rat) (i:Nat):List Rat:=
 (List.range i).foldl (fun l i=>if i % (n + 1) = 0∨x.getD i 0 = 0 then l else inR n f g (x.getD i 0) (i / (n + 1)) (i % (n + 1)) l) (List.replicate ((n + 1) * (n + 1)) 0)
def outA (n:Nat) (f g y:Rat) (c r:Nat) (l:List Rat) (a:Nat):List Rat:=
 (List.range a).foldl (fun l a=>if shar f c a = 0 then l else (List.range r).foldl (fun l b=>addAt l ((c - a) * (n + 1) + (r - 1 - b + a)) (y * shar f c a * shar g (r - 1) b)) l) l
def outB (n:Nat) (f g y:Rat) (c r a:Nat) (l:List Rat) (b:Nat):List Rat:=
 (List.range b).foldl (fun l b=>addAt l ((c - a) * (n + 1) + (r - 1 - b + a)) (y * shar f c a * shar g (r - 1) b)) l
theorem outN_all (n:Nat) (f g:Rat) (x:List Rat):outN n f g x ((n + 1) * (n + 1)) = nextR f g n x:=rfl
theorem outN_zero (n:Nat) (f g:Rat) (x:List Rat):outN n f g x 0 = List.replicate ((n + 1) * (n + 1)) 0:=rfl
theorem outN_skip {n:Nat} {f g:Rat} {x:List Rat} {i:Nat} (h:i % (n + 1) = 0∨x.getD i 0 = 0):outN n f g x (i + 1) = outN n f g x i:=by
 unfold outN;rw [List.range_succ,List.foldl_append,List.foldl_cons,List.foldl_nil,if_pos h]
theorem outN_step {n:Nat} {f g:Rat} {x:List Rat} {i:Nat} (h:¬ (i % (n + 1) = 0∨x.getD i 0 = 0)):outN n f g x (i + 1) = outA n f g (x.getD i 0) (i / (n + 1)) (i % (n + 1)) (outN n f g x i) (i / (n + 1) + 1):=by
 unfold outN;rw [List.range_succ,List.foldl_append,List.foldl_cons,List.foldl_nil,if_neg h];rfl
theorem outA_zero (n:Nat) (f g y:Rat) (c r:Nat) (l:List Rat):outA n f g y c r l 0 = l:=rfl
theorem outA_skip {n:Nat} {f g y:Rat} {c r:Nat} {l:List Rat} {a:Nat} (h:shar f c a = 0):outA n f g y c r l (a + 1) = outA n f g y c r l a:=by
 unfold outA;rw [List.range_succ,List.foldl_append,List.foldl_cons,List.foldl_nil,if_pos h]
theorem outA_step {n:Nat} {f g y:Rat} {c r:Nat} {l:List Rat} {a:Nat} (h:¬ shar f c a = 0):outA n f g y c r l (a + 1) = outB n f g y c r a (outA n f g y c r l a) r:=by
 unfold outA;rw [List.range_succ,List.foldl_append,List.foldl_cons,List.foldl_nil,if_neg h];rfl
theorem outB_zero (n:Nat) (f g y:Rat) (c r a:Nat) (l:List Rat):outB n f g y c r a l 0 = l:=rfl
theorem outB_step (n:Nat) (f g y:Rat) (c r a:Nat) (l:List Rat) (b:Nat):outB n f g y c r a l (b + 1) = addAt (outB n f g y c r a l b) ((c - a) * (n + 1) + (r - 1 - b + a)) (y * shar f c a * shar g (r - 1) b):=by
 unfold outB;rw [List.range_succ,List.foldl_append,List.foldl_cons,List.foldl_nil]
structure Gr (n E:Nat) (l m:List Rat):Prop where
 lv:Lv n E m
 le:tot n l ≤ tot n m
theorem Gr.refl {n E:Nat} {l:List Rat} (h:Lv n E l):Gr n E l l:=⟨h,Rat.le_refl⟩
theorem Gr.trans {n E:Nat} {l m k:List Rat} (h:Gr n E l m) (h2:Gr n E m k):Gr n E l k:=⟨h2.lv,Rat.le_trans h.le h2.le⟩
theorem gr_fold {α:Type} {n E:Nat} {st:List Rat→α→List Rat}:∀ {M:List α} {l:List Rat},(∀ a ∈ M,∀ l,Lv n E l→Gr n E l (st l a))→Lv n E l→Gr n E l (M.foldl st l)
 | [],_,_,h=>Gr.refl h
 | a :: M,l,H,h=>(H a (by simp) l h).trans (gr_fold (M:=M) (fun b hb=>H b (by simp [hb])) (H a (by simp) l h).lv)
theorem gr_range {n E:Nat} {st:List Rat→Nat→List Rat} {l:List Rat} {m m':Nat} (hm:m ≤ m') (H:∀ a,a < m'→∀ l,Lv n E l→Gr n E l (st l a)) (h:Lv n E l):Gr n E ((List.range m).foldl st l) ((List.range m').foldl st l):=by
 obtain ⟨q,rfl⟩:=Nat.exists_eq_add_of_le hm
 rw [List.range_add,List.foldl_append]
 refine gr_fold (fun a ha l hl=>?_) (gr_fold (fun a ha l hl=>H a (by have:=List.mem_range.1 ha;omega) l hl) h).lv
 obtain ⟨i,hi,rfl⟩:=List.mem_map.1 ha
 exact H _ (by have:=List.mem_range.1 hi;omega) l hl
theorem gr_b {n E F u:Nat} {f y:Rat} (hf:Ch01 F f) (hg:Ch01 u (1 / (u:Rat))) (hy:FrQ E y) {c r a b:Nat} (hcr:c + r ≤ n) (ha:a ≤ c) (hb:b < r) (l:List Rat) (hl:Lv n (E * (F ^ n * u ^ n)) l) :
  Gr n (E * (F ^ n * u ^ n)) l (addAt l ((c - a) * (n + 1) + (r - 1 - b + a)) (y * shar f c a * shar (1 / (u:Rat)) (r - 1) b)):=by
 have hj:=place_lt (n:=n) (q:=c - a) (r:=r - 1 - b + a) (by omega) (by omega)
 have hx:FrQ (E * (F ^ n * u ^ n)) (y * shar f c a * shar (1 / (u:Rat)) (r - 1) b):=by
  rw [← Nat.mul_assoc]
  exact (hy.mul (shar_fr hf ha (by omega))).mul (shar_fr hg (by omega) (by omega))
 refine ⟨hl.add hj hx,?_⟩
 rw [tot_add hl hj]
 have:=hx.nonneg
 grind
theorem gr_B {n E F u:Nat} {f y:Rat} (hf:Ch01 F f) (hg:Ch01 u (1 / (u:Rat))) (hy:FrQ E y) {c r a b b':Nat} (hcr:c + r ≤ n) (ha:a ≤ c) (hbb:b ≤ b') (hb:b' ≤ r) {l:List Rat} (hl:Lv n (E * (F ^ n * u ^ n)) l) :
  Gr n (E * (F ^ n * u ^ n)) (outB n f (1 / (u:Rat)) y c r a l b) (outB n f (1 / (u:Rat)) y c r a l b'):=
 gr_range hbb (fun b hb' l hl=>gr_b hf hg hy hcr ha (by omega) l hl) hl
theorem gr_a {n E F u:Nat} {f y:Rat} (hf:Ch01 F f) (hg:Ch01 u (1 / (u:Rat))) (hy:FrQ E y) {c r a:Nat} (hcr:c + r ≤ n) (ha:a ≤ c) (l:List Rat) (hl:Lv n (E * (F ^ n * u ^ n)) l) :
  Gr n (E * (F ^ n * u ^ n)) l (if shar f c a = 0 then l else (List.range r).foldl (fun l b=>addAt l ((c - a) * (n + 1) + (r - 1 - b + a)) (y * shar f c a * shar (1 / (u:Rat)) (r - 1) b)) l):=by
 split
 ·exact Gr.refl hl
 ·exact gr_B hf hg hy hcr ha (Nat.zero_le r) (Nat.le_refl _) hl
theorem gr_A {n E F u:Nat} {f y:Rat} (hf:Ch01 F f) (hg:Ch01 u (1 / (u:Rat))) (hy:FrQ E y) {c r a a':Nat} (hcr:c + r ≤ n) (haa:a ≤ a') (ha:a' ≤ c + 1) {l:List Rat} (hl:Lv n (E * (F ^ n * u ^ n)) l) :
  Gr n (E * (F ^ n * u ^ n)) (outA n f (1 / (u:Rat)) y c r l a) (outA n f (1 / (u:Rat)) y c r l a'):=
 gr_range haa (fun a ha' l hl=>gr_a hf hg hy hcr (by omega) l hl) hl
theorem gr_n {n E F u:Nat} {f:Rat} {x:List Rat} (hf:Ch01 F f) (hg:Ch01 u (1 / (u:Rat))) (hs:Supp n x) (hx:Lv n E x) {i:Nat} (hi:i < (n + 1) * (n + 1)) (l:List Rat) (hl:Lv n (E * (F ^ n * u ^ n)) l) :
  Gr n (E * (F ^ n * u ^ n)) l (if i % (n + 1) = 0∨x.getD i 0 = 0 then l else inR n f (1 / (u:Rat)) (x.getD i 0) (i / (n + 1)) (i % (n + 1)) l):=by
 split
 ·exact Gr.refl hl
 ·rename_i e
  have hcr:i / (n + 1) + i % (n + 1) ≤ n:=by
   rcases Nat.lt_or_ge n (i / (n + 1) + i % (n + 1)) with h1 | h1
   ·exact absurd (.inr (hs.z i hi h1)) e
   ·exact h1
  exact gr_A hf hg (hx.fr i hi) hcr (Nat.zero_le _) (Nat.le_refl _) hl
theorem gr_N {n E F u:Nat} {f:Rat} {x:List Rat} (hf:Ch01 F f) (hg:Ch01 u (1 / (u:Rat))) (hs:Supp n x) (hx:Lv n E x) {i i':Nat} (hii:i ≤ i') (hi:i' ≤ (n + 1) * (n + 1)) :
  Gr n (E * (F ^ n * u ^ n)) (outN n f (1 / (u:Rat)) x i) (outN n f (1 / (u:Rat)) x i'):=
 gr_range hii (fun i hi' l hl=>gr_n hf hg hs hx (by omega) l hl) (Lv.zero n _)
theorem out_ok {n E F u:Nat} {f:Rat} {x:List Rat} (hf:Ch01 F f) (hg:Ch01 u (1 / (u:Rat))) (hs:Supp n x) (hx:Lv n E x) (ht:tot n x ≤ 1) {i:Nat} (hi:i ≤ (n + 1) * (n + 1)) :
  Lv n (E * (F ^ n * u ^ n)) (outN n f (1 / (u:Rat)) x i)∧tot n (outN n f (1 / (u:Rat)) x i) ≤ 1:=by
 refine ⟨(gr_N hf hg hs hx (Nat.zero_le i) hi).lv,?_⟩
 have h1:=(gr_N hf hg hs hx hi (Nat.le_refl _)).le
 rw [outN_all] at h1
 exact Rat.le_trans h1 (Rat.le_trans (tot_next_le hs hx) ht)
theorem out_okA {n E F u:Nat} {f:Rat} {x:List Rat} (hf:Ch01 F f) (hg:Ch01 u (1 / (u:Rat))) (hs:Supp n x) (hx:Lv n E x) (ht:tot n x ≤ 1) {i:Nat} (hi:i < (n + 1) * (n + 1)) (h:¬ (i % (n + 1) = 0∨x.getD i 0 = 0)) {a:Nat} (ha:a ≤ i / (n + 1) + 1) :
  Lv n (E * (F ^ n * u ^ n)) (outA n f (1 / (u:Rat)) (x.getD i 0) (i / (n + 1)) (i % (n + 1)) (outN n f (1 / (u:Rat)) x i) a)∧tot n (outA n f (1 / (u:Rat)) (x.getD i 0) (i / (n + 1)) (i % (n + 1)) (outN n f (1 / (u:Rat)) x i) a) ≤ 1:=by
 have hcr:i / (n + 1) + i % (n + 1) ≤ n:=by
  rcases Nat.lt_or_ge n (i / (n + 1) + i % (n + 1)) with h1 | h1
  ·exact absurd (.inr (hs.z i hi h1)) h
  ·exact h1
 have h0:=(out_ok hf hg hs hx ht (i:=i) (by omega)).1
 refine ⟨(gr_A hf hg (hx.fr i hi) hcr (Nat.zero_le a) ha h0).lv,?_⟩
 have h1:=(gr_A hf hg (hx.fr i hi) hcr ha (Nat.le_refl _) h0).le
 rw [← outN_step h] at h1
 exact Rat.le_trans h1 (out_ok hf hg hs hx ht (i:=i + 1) (by omega)).2
theorem out_okB {n E F u:Nat} {f:Rat} {x:List Rat} (hf:Ch01 F f) (hg:Ch01 u (1 / (u:Rat))) (hs:Supp n x) (hx:Lv n E x) (ht:tot n x ≤ 1) {i:Nat} (hi:i < (n + 1) * (n + 1)) (h:¬ (i % (n + 1) = 0∨x.getD i 0 = 0)) {a:Nat} (ha:a ≤ i / (n + 1)) (h2:¬ shar f (i / (n + 1)) a = 0) {b:Nat} (hb:b ≤ i % (n + 1)) :
  Lv n (E * (F ^ n * u ^ n)) (outB n f (1 / (u:Rat)) (x.getD i 0) (i / (n + 1)) (i % (n + 1)) a (outA n f (1 / (u:Rat)) (x.getD i 0) (i / (n + 1)) (i % (n + 1)) (outN n f (1 / (u:Rat)) x i) a) b) ∧
  tot n (outB n f (1 / (u:Rat)) (x.getD i 0) (i / (n + 1)) (i % (n + 1)) a (outA n f (1 / (u:Rat)) (x.getD i 0) (i / (n + 1)) (i % (n + 1)) (outN n f (1 / (u:Rat)) x i) a) b) ≤ 1:=by
 have hcr:i / (n + 1) + i % (n + 1) ≤ n:=by
  rcases Nat.lt_or_ge n (i / (n + 1) + i % (n + 1)) with h1 | h1
  ·exact absurd (.inr (hs.z i hi h1)) h
  ·exact h1
 have h0:=(out_okA hf hg hs hx ht hi h (a:=a) (by omega)).1
 refine ⟨(gr_B hf hg (hx.fr i hi) hcr ha (Nat.zero_le b) hb h0).lv,?_⟩
 have h1:=(gr_B hf hg (hx.fr i hi) hcr ha hb (Nat.le_refl _) h0).le
 rw [← outA_step h2] at h1
 exact Rat.le_trans h1 (out_okA hf hg hs hx ht hi h (a:=a + 1) (by omega)).2
theorem one_over {u:Nat} (hu:u ≠ 0):Ch01 u (1 / (u:Rat)):=by
 refine ⟨⟨1,rfl⟩,?_,hu⟩
 have h2:(0:Rat) < (u:Rat):=by exact_mod_cast Nat.pos_of_ne_zero hu
 refine le_div1 h2 ?_
 exact_mod_cast Nat.one_le_iff_ne_zero.2 hu
def lvE (Fp:Nat) (F:Nat→Nat) (n k:Nat):Nat→Nat
 | 0=>Fp ^ n
 | j + 1=>lvE Fp F n k j * (F (k - j) ^ n * (k - j) ^ n)
theorem lv_ok {Fp:Nat} {p:Rat} {F:Nat→Nat} {f:Nat→Rat} {n k:Nat} (hp:Ch01 Fp p) (hf:∀ u,1 ≤ u→u ≤ k→Ch01 (F u) (f u)):∀ j,j ≤ k→Lv n (lvE Fp F n k j) (lvR p f n k j)∧tot n (lvR p f n k j) ≤ 1
 | 0,_=>⟨Lv.first hp n,by rw [lvR,tot_first];exact Rat.le_refl⟩
 | j + 1,h=>by
  obtain ⟨h1,h2⟩:=lv_ok (n:=n) hp hf j (by omega)
  have:=out_ok (hf (k - j) (by omega) (by omega)) (one_over (u:=k - j) (by omega)) (supp_lv p f n k j) h1 h2 (Nat.le_refl _)
  exact this
open Go Go.Proofs Go.RowKit
/-! How large the chances are, of natural weights. -/
theorem FrQ.sum {α:Type} {E:Nat} {f:α→Rat}:∀ {l:List α},(∀ x ∈ l,FrQ E (f x))→FrQ E (sR f l)
 | [],_=>FrQ.zero E
 | a :: l,h=>(h a (by simp)).add (FrQ.sum (l:=l) fun x hx=>h x (by simp [hx]))
def natW (w:Nat→Nat) (D:Nat) (i:Nat):Rat:=(w i:Rat) / (D:Rat)
theorem natW_nonneg (w:Nat→Nat) (D i:Nat):0 ≤ natW w D i:=FrQ.nonneg (E:=D) ⟨_,rfl⟩
def fillN (m d j:Nat):Nat:=if j ≤ d then chs m (d - j) else 0
theorem fillC_nat (m d j:Nat):fillC m d j = (fillN m d j:Rat):=by
 unfold fillC fillN;split
 ·rfl
 ·rfl
def inN (m k:Nat) (w:Nat→Nat) (u j:Nat):Nat:=((List.range m).map fun i=>w i * (chs u j * fillN (k - u) (i + 1) j)).sum
theorem sR_cast' {α:Type} (f:α→Nat):∀ l:List α,(((l.map f).sum:Nat):Rat) = sR (fun x=>(f x:Rat)) l
 | []=>rfl
 | a :: l=>by rw [List.map_cons,List.sum_cons];push_cast;rw [sR_cast' f l];rfl
theorem evI_nat (m k:Nat) (w:Nat→Nat) (D u j:Nat):evI m k (natW w D) u j = (inN m k w u j:Rat) / (D:Rat):=by
 unfold evI inN
 rw [sR_cast',Rat.div_def,Rat.mul_comm,← sR_mul]
 refine sR_congr fun i _=>?_
 unfold natW
 rw [fillC_nat,Rat.div_def];push_cast;grind
theorem evI_fr (m k:Nat) (w:Nat→Nat) (D u j:Nat):FrQ D (evI m k (natW w D) u j):=⟨_,evI_nat m k w D u j⟩
theorem evQ_fr (m k:Nat) (w:Nat→Nat) (D u:Nat):FrQ D (evQ m k (natW w D) u):=by
 rw [evQ_sum];exact FrQ.sum fun j _=>evI_fr m k w D u _
theorem p_ch {m k D:Nat} {w:Nat→Nat} (hD:D ≠ 0) (h1:sR (·.2) (evX m k (natW w D)) = 1):Ch01 D (evI m k (natW w D) k 1):=by
 refine ⟨evI_fr m k w D k 1,?_,hD⟩
 have h2:=ev_lack h1
 have h3:=evQ_nonneg (m:=m) (k:=k) (ω:=natW w D) (fun i _=>natW_nonneg w D i) k
 grind
theorem free_nonneg {m k D:Nat} {w:Nat→Nat} (u:Nat):0 ≤ freeR m k (natW w D) u:=by
 unfold freeR
 split
 ·exact Rat.le_refl
 ·have h1:=(evI_fr m k w D u 2).nonneg
  have h2:=(evQ_fr m k w D u).nonneg
  have inv:∀ x:Rat,0 ≤ x→0 ≤ x⁻¹:=fun x hx=>by
   by_cases e:x = 0
   ·rw [e,Rat.inv_zero];exact Rat.le_refl
   ·exact Rat.le_of_lt (Rat.inv_pos.2 (Rat.lt_of_le_of_ne hx (Ne.symm e)))
  rw [Rat.div_def,Rat.div_def]
  exact Rat.mul_nonneg (Rat.mul_nonneg (Rat.mul_nonneg (by decide) (inv _ (natR_nonneg u))) h1) (inv _ h2)
theorem free_fr {m k D:Nat} {w:Nat→Nat} (hD:D ≠ 0) (h1:sR (·.2) (evX m k (natW w D)) = 1) {u:Nat} (h0:1 ≤ u) (hu:u ≤ k):∃ E,E ≠ 0∧E ≤ u * D∧Ch01 E (freeR m k (natW w D) u):=by
 have hω:∀ i,i < m→0 ≤ natW w D i:=fun i _=>natW_nonneg w D i
 have hle:freeR m k (natW w D) u ≤ 1:=by
  obtain ⟨v,rfl⟩ : ∃ v,u = v + 1:=⟨u - 1,by omega⟩
  by_cases e:evQ m k (natW w D) (v + 1) = 0
  ·unfold freeR;rw [if_pos e];decide
  ·have h2:=free_two (k:=k) hω (u:=v) (by omega)
   have h3:=evQ_nonneg (k:=k) hω v
   have h4:=evQ_nonneg (k:=k) hω (v + 1)
   rcases (Rat.le_total:freeR m k (natW w D) (v + 1) ≤ 1∨_) with h | h
   ·exact h
   ·have h5:0 < evQ m k (natW w D) (v + 1):=Rat.lt_of_le_of_ne h4 (Ne.symm e)
    have h6:0 ≤ evQ m k (natW w D) (v + 1) * (freeR m k (natW w D) (v + 1) - 1):=Rat.mul_nonneg h4 (by grind)
    have h7:evQ m k (natW w D) (v + 1) * (1 - freeR m k (natW w D) (v + 1)) = 0:=by grind
    have h8:1 - freeR m k (natW w D) (v + 1) = 0:=(Rat.mul_eq_zero.1 h7).resolve_left e
    grind
 by_cases e:evQ m k (natW w D) u = 0
 ·refine ⟨1,Nat.one_ne_zero,?_,?_,hle,Nat.one_ne_zero⟩
  ·exact Nat.mul_pos h0 (Nat.pos_of_ne_zero hD)
  ·unfold freeR;rw [if_pos e];exact FrQ.zero 1
 ·obtain ⟨b,hb,hq⟩:=(evQ_fr m k w D u).le hD (evQ_le hω h1 hu)
  obtain ⟨a,ha⟩:=evI_fr m k w D u 2
  have hb0:b ≠ 0:=fun h=>e (by rw [hq,h,show ((0:Nat):Rat) = 0 from rfl];grind)
  have hn:u * b ≠ 0:=Nat.mul_ne_zero (by omega) hb0
  refine ⟨u * b,hn,Nat.mul_le_mul_left u hb,⟨2 * a,?_⟩,hle,hn⟩
  unfold freeR
  rw [if_neg e,hq,ha]
  have z1:=nz hb0
  have z2:=nz hD
  have z3:=nz (show u ≠ 0 by omega)
  push_cast
  grind
theorem den_le {E:Nat} {q:Rat} (h:FrQ E q) (hE:E ≠ 0):q.den ≤ E:=by
 obtain ⟨a,rfl⟩:=h
 have:(a:Rat) / (E:Rat) = mkRat (a:Int) E:=(Rat.mkRat_eq_div _ _).symm
 rw [this,Rat.mkRat_def,dif_neg hE,Rat.normalize_eq]
 exact Nat.div_le_self _ _
theorem free_ch {m k D:Nat} {w:Nat→Nat} (hD:D ≠ 0) (h1:sR (·.2) (evX m k (natW w D)) = 1) {u:Nat} (h0:1 ≤ u) (hu:u ≤ k):Ch01 (freeR m k (natW w D) u).den (freeR m k (natW w D) u)∧(freeR m k (natW w D) u).den ≤ u * D:=by
 obtain ⟨E,hE,hE2,hc⟩:=free_fr hD h1 h0 hu
 exact ⟨⟨FrQ.self _ (free_nonneg u),hc.le,(freeR m k (natW w D) u).den_nz⟩,Nat.le_trans (den_le hc.fr hE) hE2⟩
theorem lvE_le {D n k B:Nat} {F:Nat→Nat} (hF:∀ u,1 ≤ u→u ≤ k→F u ≤ B) (hk:k ≤ B) (hD:D ≤ B) (hB:1 ≤ B):∀ j,j ≤ k→lvE D F n k j ≤ B ^ (n + 2 * n * j)
 | 0,_=>by rw [lvE,Nat.mul_zero,Nat.add_zero];exact Nat.pow_le_pow_left hD n
 | j + 1,h=>by
  rw [lvE]
  have h1:=lvE_le (n:=n) hF hk hD hB j (by omega)
  have h2:F (k - j) ^ n ≤ B ^ n:=Nat.pow_le_pow_left (hF _ (by omega) (by omega)) n
  have h3:(k - j) ^ n ≤ B ^ n:=Nat.pow_le_pow_left (by omega) n
  rw [show n + 2 * n * (j + 1) = n + 2 * n * j + (n + n) by rw [Nat.mul_succ];omega,Nat.pow_add B (n + 2 * n * j),Nat.pow_add B n n]
  exact Nat.mul_le_mul h1 (Nat.mul_le_mul h2 h3)
theorem lvE_pos {D n k:Nat} {F:Nat→Nat} (hD:D ≠ 0) (hF:∀ u,1 ≤ u→u ≤ k→F u ≠ 0):∀ j,j ≤ k→lvE D F n k j ≠ 0
 | 0,_=>Nat.ne_of_gt (Nat.pow_pos (Nat.pos_of_ne_zero hD))
 | j + 1,h=>Nat.mul_ne_zero (lvE_pos hD hF j (by omega)) (Nat.mul_ne_zero (Nat.ne_of_gt (Nat.pow_pos (Nat.pos_of_ne_zero (hF _ (by omega) (by omega))))) (Nat.ne_of_gt (Nat.pow_pos (by omega))))
open Go Go.Proofs Go.RowKit
def natG (W:List (List Int)→Bool) (L:List (List Int × Nat)):Nat→List (List Int)→Nat→Nat
 | 0,b,m=>if W b then m else 0
 | n + 1,b,m=>(L.map fun s=>natG W L n (b ++ [s.1]) (m * s.2)).sum
def digs (m:Nat):Nat→Nat→List Nat
 | 0,_=>[]
 | n + 1,j=>digs m n (j / m) ++ [j % m]
def selS (L:List (List Int × Nat)) (l:List Nat):List (List Int):=l.map fun i=>(L.getD i ([],0)).1
def prdW (L:List (List Int × Nat)) (l:List Nat):Nat:=l.foldl (fun a i=>a * (L.getD i ([],0)).2) 1
def tupN (W:List (List Int)→Bool) (L:List (List Int × Nat)) (l:List Nat):Nat:=if W (selS L l) then prdW L l else 0
def accN (W:List (List Int)→Bool) (L:List (List Int × Nat)) (n j:Nat):Nat:=((List.range j).map fun i=>tupN W L (digs L.length n i)).sum
def sumR (m:Nat) (f:List Nat→Nat):Nat→List Nat→Nat
 | 0,b=>f b
 | n + 1,b=>((List.range m).map fun i=>sumR m f n (b ++ [i])).sum
open Go Go.RowKit
section
variable {P:Program} {E:Env P} {n:Sh} {X:Cx} {s:List K} {fr:Fr} {A:List Ch} {c:Code} {e:Exit}
end
end Go.Art
namespace Go.Art
open Go Go.Proofs Go.RowKit
def tupsL (m n:Nat):List (List Int):=(List.range (m ^ n)).map fun j=>(digs m n j).map Int.ofNat
def curD (m n q p:Nat):List Int:=(digs m n p).map Int.ofNat ++ List.replicate q 0
def lbd (C:List Ch):Ch where
 wr:=fun _=>False
 rd:=fun _=>False
 bd:=fun b=>fts C b
 P:=fun w=>∀ c ∈ C,c.P w
 loc:=fun h hb c hc=>c.loc (h c hc) fun b hf=>hb b (.inr (.inr ⟨c,hc,hf⟩))
 lt:=fun h hb=>by
  rcases hb with hb | hb | ⟨c,hc,hf⟩
  ·exact hb.elim
  ·exact hb.elim
  ·exact c.lt (h c hc) hf
instance (C:List Ch):Lent (lbd C):=⟨fun _=>⟨fun h=>h,fun h=>h⟩⟩
theorem has_mem {F:List Ch} {c:Ch} [h:Lent c] (hm:c ∈ F):Has F c:=⟨fun _ hw=>hw.h c hm,fun b=>(h.lent b).1,fun b=>(h.lent b).2,fun _ hb=>⟨c,hm,hb⟩⟩
theorem has_lbd {F C:List Ch} {c:Ch} [hl:Lent c] (h:Has F (lbd C)) (hc:c ∈ C):Has F c:=⟨fun w hw=>h.P w hw c hc,fun b=>(hl.lent b).1,fun b=>(hl.lent b).2,fun b hb=>h.ft b (.inr (.inr ⟨c,hc,hb⟩))⟩
theorem lbd_of {F C:List Ch} (h:∀ c ∈ C,Has F c):Has F (lbd C):=⟨fun w hw c hc=>(h c hc).P w hw,fun _ h=>h,fun _ h=>h,fun b hb=>by
 rcases hb with hb | hb | ⟨c,hc,hf⟩
 ·exact hb.elim
 ·exact hb.elim
 ·exact (h c hc).ft b hf⟩
theorem Ty.pre {P:Program} {l:Nat} {vs:List Value} {pre pre' A:List Ch} {R:Bool→List Ch→Prop} (h:Ty P l vs pre A R) (hp:∀ c ∈ pre,Has pre' c) (hl:∀ c ∈ pre',∀ b,¬ c.wr b∧¬ c.rd b):Ty P l vs pre' A R:=
 ⟨fun w hw=>h.run w (lend (hw.perm List.perm_append_comm) hp),hl⟩
structure SeqV (P:Program) (f:FuncId) (cap:Array Value) (pre:List Ch) (L:List (List Int)):Prop where
 run:∀ {α:Type} (V:Ch) [Lent V] (l:Nat) (J:α→Ch) (pl:α→Nat→Prop) (S:α→Prop) (a0:α),pl a0 0→(∀ a b,¬ (J a).bd b) →
  (∀ a i x,pl a i→i < L.length→Ty P l [x] [vw x (Is (L.getD i [])),V] [J a] fun ok B=>∃ a',B = [J a']∧((ok = true∧pl a' (i + 1))∨(ok = false∧S a'))) →
  Tr P f (yv l :: cap.toList) (V :: pre) [J a0] fun _ B=>∃ a,B = [J a]∧(pl a L.length∨S a)
structure TpG (α:Type) where
 j:Nat
 a:α
structure TqG where
 q:Nat
 p:Nat
attribute [local irreducible] Fit pt own ro vw mpc lpt vels rels mow lrc dfr
attribute [local irreducible] lmp lme mit velg relg bnd owl dfrl
end Go.Art
namespace Go.Art
open Go Go.Proofs Go.RowKit
attribute [local irreducible] Fit pt own ro vw mpc lpt vels rels mow lrc dfr
theorem nat_tr (v:Value) (l:List Nat) (h:Nat) (hd:Dg l) (hl:l.length + h ≤ 4398046511104):Tr Tryz.prog 234 [v,I h] [vw v (Us l)] [] fun u D=>u.oneCell' = true∧∃ m,D = [own T64 u (Us m)]∧Dg m∧nv m = 18446744073709551616 ^ h * nv l∧m.length ≤ l.length + h:=by
 by_cases h0:l = []
 ·subst h0
  refine Tr.enter env _ Tryz.func234 (by kernel_rfl) rfl Tryz.ntmps234 rfl (by repeat (first | exact has00 | refine has01 ?_)) fun w0=>?_
  repeat' first|refine ln (xs:=[]) ?_|(refine wo ?_;first|(refine ao ?_;first|refine oa ?_)|refine oa ?_)|(refine gc ?_;first|refine ct ?_)|refine sq ?_|refine rg ?_|refine xc ?_|refine nl ?_|refine rt ?_
  refine TX.im (own_nil T64 _) ?_
  exact r1 ⟨rfl,[],rfl,Dg.nil,by simp [nv],by simp⟩
 ·have hp:0 < l.length:=List.length_pos_iff.2 h0
  refine Tr.enter env _ Tryz.func234 (by kernel_rfl) rfl Tryz.ntmps234 rfl (by repeat (first | exact has00 | refine has01 ?_)) fun w0=>?_
  repeat' first|(refine mku fun o=>?_;rw [Int.toNat_natCast])|(refine apu (l:=List.replicate h 0) (news:=l) (hl:=by rw [List.length_replicate];omega) fun u=>?_;refine TO.one (v:=u) (xs:=Us (List.replicate h 0 ++ l)) fun hu=>?_)|(refine wo ?_;first|(refine ao ?_;first|refine oa ?_)|refine oa ?_|refine lnm ?_)|(refine gc ?_;first|(refine ci (fun hB=>?_) (fun hB=>?_) <;> try (exfalso;omega)))|refine sq ?_|refine rg ?_|refine xc ?_|refine nl ?_|refine sk ?_|refine rt ?_
  exact r1 ⟨hu,_,rfl,(Dg.rep h).app hd,by rw [nv_app,nv_rep,List.length_replicate,Nat.zero_add],by rw [List.length_append,List.length_replicate];omega⟩
def lessN (n a b:Nat):Nat→Nat
 | 0=>n
 | 1=>n - a
 | _=>n - a - b
def lessJ (n a b:Nat) (v:Value):Nat→List Ch
 | 0=>[]
 | i + 1=>[own T64 v (Us (dg (lessN n a b (i + 1))))]
theorem less_tr (n0 lv x1 x2:Value) (N a b:List Nat) (hN:Dg N) (ha:Dg a) (hb:Dg b) (lN:N.length ≤ 1099511627776) (la:a.length ≤ 1099511627776) (lb:b.length ≤ 1099511627776) (h0:n0.oneCell' = true) (hle:nv a + nv b ≤ nv N) :
  Tr Tryz.prog 233 [n0,lv] [vw lv [x1,x2],vw n0 (Us N),vw x1 (Us a),vw x2 (Us b)] [] fun u D=>u.oneCell' = true∧D = [own T64 u (Us (dg (nv N - nv a - nv b)))]:=by
 have s1:=fun v=>NSub_tr v x1 N a hN ha lN la (by omega)
 have l2:(dg (nv N - nv a)).length ≤ 1099511627776:=Nat.le_trans (dg_mono (Nat.sub_le _ _)) (Nat.le_trans (dg_len_le hN) lN)
 have s2:=fun v=>NSub_tr v x2 (dg (nv N - nv a)) b (Dg_dg _) hb l2 lb (by rw [nv_dg];omega)
 simp only [nv_dg] at s2
 have hl2:([x1,x2]:List Value).length = 2:=rfl
 refine Tr.enter env _ Tryz.func233 (by kernel_rfl) rfl Tryz.ntmps233 rfl (by repeat (first | exact has00 | refine has01 ?_)) fun w0=>?_
 repeat' first|(refine ln (xs:=[x1,x2]) ?_;rw [hl2])|(refine wo ?_;first|refine oa ?_)|refine sq ?_|refine rg ?_|refine xc ?_|refine nl ?_|refine bk ?_
 refine TC.loop (ι:=Nat × Value) (fun k=>[(9,I k.1),(0,k.2)]) (fun k=>lessJ (nv N) (nv a) (nv b) k.2 k.1) (fun k=>k.1 ≤ 2∧(k.1 = 0→k.2 = n0)∧k.2.oneCell' = true) (fun k=>2 - k.1) (0,n0) [7,8] ⟨Nat.zero_le _,fun _=>rfl,h0⟩ ?_
 rintro ⟨i,v⟩ ⟨h1,h2,h3⟩
 dsimp only at h1 h2 h3 ⊢
 have hi:i = 0∨i = 1∨i = 2:=by omega
 rcases hi with rfl | rfl | rfl
 ·obtain rfl:=h2 rfl
  refine TC.im (B:=[vw lv [x1,x2],vw v (Us N),vw x1 (Us a),vw x2 (Us b)]) (Im.refl _) ?_
  repeat' first|(refine gca ?_;first|(refine ca (s1 v) ?_;rintro _ _ ⟨u,rfl,hu,rfl⟩))|refine ixn (i:=0) (xs:=[x1,x2]) (hb:=by decide) ?_|refine le (j:=0) (xs:=[x1,x2]) (u:=x1) ?_|(refine wo ?_;first|(refine ao ?_;first|refine aw ?_|refine oa ?_)|refine oa ?_|refine ixn ?_)|(refine gc ?_;first|refine ct ?_)|refine sq ?_|refine rg ?_|refine xc ?_|refine nl ?_|refine sk ?_|refine bk ?_|refine xb ?_
  exact lp (1,u) ⟨Nat.le_succ 1,fun h=>absurd h (Nat.succ_ne_zero 0),hu⟩
 ·refine TC.im (B:=[own T64 v (Us (dg (nv N - nv a))),vw lv [x1,x2],vw n0 (Us N),vw x1 (Us a),vw x2 (Us b)]) (Im.refl _) ?_
  repeat' first|(refine gca ?_;first|(refine ca (s2 v) ?_;rintro _ _ ⟨u,rfl,hu,rfl⟩))|refine ixn (i:=1) (xs:=[x1,x2]) (hb:=by decide) ?_|refine le (j:=1) (xs:=[x1,x2]) (u:=x2) ?_|(refine wo ?_;first|(refine ao ?_;first|refine aw ?_|refine oa ?_)|refine oa ?_|refine ixn ?_)|(refine gc ?_;first|refine ct ?_)|refine sq ?_|refine rg ?_|refine xc ?_|refine nl ?_|refine sk ?_|refine bk ?_|refine xb ?_
  exact lp (2,u) ⟨Nat.le_refl 2,fun h=>absurd h (Nat.succ_ne_zero 1),hu⟩
 ·refine TC.im (B:=[own T64 v (Us (dg (nv N - nv a - nv b))),vw lv [x1,x2],vw n0 (Us N),vw x1 (Us a),vw x2 (Us b)]) (Im.refl _) ?_
  repeat' first|(refine wo ?_;first|(refine ao ?_;first|refine oa ?_)|refine oa ?_)|(refine gc ?_;first|refine cf ?_)|refine sq ?_|refine rg ?_|refine xc ?_|refine nl ?_|refine xe ?_|refine rt ?_
  exact r1 ⟨h3,rfl⟩
end Go.Art
namespace Go.Art
open Go Go.Proofs Go.RowKit
section
variable {P:Program} {E:Env P} {n:Sh} {X:Cx} {s:List K} {fr:Fr} {A A':List Ch} {ops:Array Oper} {rest:List Oper} {d:Nat} {ty t t' el:TypeId} {pos:String} {after:Array Edge} {x y:Operand} {p q hi lo:Int} {v z:Value} {k1:IntKind} {by_:Nat} {xs:List Value} {α:Type} {g:α→Value} {l:List α}
theorem qmnn (k:TQ E n X s ops rest ((d,I (min p q)) :: fr) A) (hx:ev fr x = some (I p):=by rfl) (hy:ev fr y = some (I q):=by rfl) (hd:Nat.blt d n.n = true:=by rfl):TQ E n X s ops (⟨some d,.call ⟨.builtin .min,#[x,y],#[t,t']⟩,ty,pos,after,none⟩ :: rest) fr A:=TQ.val (fun w _=>⟨fun a ha _ _ _ _=>by
 have e:(if q < p then q else p) = min p q:=by split <;> omega
 simp only [execOp,resolve]
 simp [ha.ev hx,ha.ev hy,invoke,builtin,Builtin.min_,Builtin.min2,← e]⟩) k hd
theorem qslh (k:TQ E n X s ops rest ((d,slSub v 0 hi.toNat) :: fr) A) (hx:ev fr x = some v:=by rfl) (hl:ev fr y = some (.int k1 hi):=by rfl) (hs:Has A (vw v (l.map g)):=by exact hasA) (hb:0 ≤ hi∧hi ≤ l.length:=by omega)
  (ht:lk E.und t = some (.slice el):=by rfl) (he:lk E.inf el = some (z,1,by_):=by rfl) (hd:Nat.blt d n.n = true:=by rfl):TQ E n X s ops (⟨some d,.slice t x none (some y) none,ty,pos,after,none⟩ :: rest) fr A:=
 TQ.val (fun _ h=>R_sliceHi ht he hx hl (has_sl h hs) (by simpa using hb)) k hd
theorem qsll (k:TQ E n X s ops rest ((d,slSub v lo.toNat l.length) :: fr) A) (hx:ev fr x = some v:=by rfl) (hl:ev fr y = some (.int k1 lo):=by rfl) (hs:Has A (vw v (l.map g)):=by exact hasA) (hb:0 ≤ lo∧lo ≤ l.length:=by omega)
  (ht:lk E.und t = some (.slice el):=by rfl) (he:lk E.inf el = some (z,1,by_):=by rfl) (hd:Nat.blt d n.n = true:=by rfl):TQ E n X s ops (⟨some d,.slice t x (some y) none none,ty,pos,after,none⟩ :: rest) fr A:=
 TQ.val (fun _ h=>by have:=R_sliceLo (n:=n) (ty:=ty) ht he hx hl (has_sl h hs) (by simpa using hb);rwa [List.length_map] at this) k hd
end
attribute [local irreducible] Fit pt own ro vw mpc lpt vels rels mow lrc dfr
theorem cut_tr (v:Value) (l:List Nat) (h c:Nat):Tr Tryz.prog 232 [v,ptr c] [vw v (Us l),lpt c [I h] TRi] [] fun u D=>u = tup2 (slSub v 0 (min h l.length)) (slSub v (min h l.length) l.length)∧D = []:=by
 have hm:(min (h:Int) l.length).toNat = min h l.length:=by omega
 rw [← hm]
 refine Tr.enter env _ Tryz.func232 (by kernel_rfl) rfl Tryz.ntmps232 rfl (by repeat (first | exact has00 | refine has01 ?_)) fun w0=>?_
 repeat' first|refine qmnn ?_|refine qslh (g:=Un) ?_|refine qsll (g:=Un) ?_|(refine wo ?_;first|refine oa ?_)|refine sq ?_|refine rg ?_|refine xc ?_|refine nl ?_|refine rt ?_|refine rq ?_|refine nq ?_|(refine wq ?_;first|refine qa ?_|refine qldl ?_|refine qlnm ?_)
 exact r2 ⟨rfl,rfl⟩
end Go.Art
namespace Go.Art
open Go Go.Proofs Go.RowKit
abbrev TMul:TypeId:=91
abbrev halF (c5 c7:Nat):Value:=.func (.func 231) #[] #[ptr c5,ptr c7]
theorem kara {a0 a1 b0 b1 p:Nat}:a0 * b0 + p * ((a0 + a1) * (b0 + b1) - a0 * b0 - a1 * b1) + p * p * (a1 * b1) = (a0 + p * a1) * (b0 + p * b1):=by
 have h:(a0 + a1) * (b0 + b1) - a0 * b0 - a1 * b1 = a0 * b1 + a1 * b0:=by
  rw [Nat.add_mul,Nat.mul_add,Nat.mul_add];omega
 rw [h];grind
theorem dg_mul_len {a b i j:Nat} (ha:(dg a).length ≤ i) (hb:(dg b).length ≤ j):(dg (a * b)).length ≤ i + j:=(dg_len _ _).2 (by
 rw [Nat.pow_add];exact Nat.mul_lt_mul'' ((dg_len _ _).1 ha) ((dg_len _ _).1 hb))
theorem dg_add_len {a b i:Nat} (ha:(dg a).length ≤ i) (hb:(dg b).length ≤ i):(dg (a + b)).length ≤ i + 1:=(dg_len _ _).2 (by
 have h1:=(dg_len _ _).1 ha
 have h2:=(dg_len _ _).1 hb
 rw [Nat.pow_succ];omega)
attribute [local irreducible] Fit pt own ro vw mpc lpt vels rels mow lrc dfr
set_option maxHeartbeats 2000000 in
theorem hal1_tr (c5 c7:Nat) (least:Int) (M:Nat):∀ (va vb:Value) (a b:List Nat),Dg a→Dg b→a.length ≤ 68719476736→b.length ≤ 68719476736→max (dg (nv a)).length (dg (nv b)).length ≤ M →
  Tr Tryz.prog 231 [va,vb,ptr c5,ptr c7] [vw va (Us a),vw vb (Us b),lpt c5 [I least] TRi,lpt c7 [halF c5 c7] TMul] [] fun u D=>u.oneCell' = true∧D = [own T64 u (Us (dg (nv a * nv b)))]:=by
 induction M using Nat.strongRecOn with
 | _ M ih=>
  intro va vb a b ha hb hla hlb hM
  have hal:=dg_len_le ha
  have hbl:=dg_len_le hb
  have hTa:=Trim_tr va a ha (by omega)
  have hTb:=Trim_tr vb b hb (by omega)
  obtain ⟨na,hna⟩ : ∃ na,na = nv a:=⟨_,rfl⟩
  obtain ⟨nb,hnb⟩ : ∃ nb,nb = nv b:=⟨_,rfl⟩
  rw [← hna] at hal hM hTa ⊢
  rw [← hnb] at hbl hM hTb ⊢
  obtain ⟨x,hx⟩ : ∃ x,x = dg na:=⟨_,rfl⟩
  obtain ⟨y,hy⟩ : ∃ y,y = dg nb:=⟨_,rfl⟩
  have hxn:nv x = na:=by rw [hx,nv_dg]
  have hyn:nv y = nb:=by rw [hy,nv_dg]
  have hxd:Dg x:=by rw [hx];exact Dg_dg _
  have hyd:Dg y:=by rw [hy];exact Dg_dg _
  rw [← hx] at hal hM hTa
  rw [← hy] at hbl hM hTb
  have hSc:=fun u1 u2=>School_tr u1 u2 x y hxd hyd (by omega) (by omega)
  rw [hxn,hyn] at hSc
  clear hx hy hna hnb
  refine Tr.enter env _ Tryz.func231 (by kernel_rfl) rfl Tryz.ntmps231 rfl (by repeat (first | exact has00 | refine has01 ?_)) fun w0=>?_
  by_cases hs:min (x.length:Int) y.length < max least 4
  ·repeat' first|(refine gca ?_;first|(refine ca hTa ?_;rintro u1 _ ⟨hu1,rfl⟩)|(refine ca hTb ?_;rintro u2 _ ⟨hu2,rfl⟩)|(refine ca (hSc u1 u2) ?_;rintro u _ ⟨hu,rfl⟩))|refine mnn ?_|refine mxx ?_|(refine wo ?_;first|(refine ao ?_;first|refine oa ?_)|refine oa ?_|refine ldl ?_|refine lnm ?_)|(refine gc ?_;first|(refine ci (fun hB=>?_) (fun hB=>?_) <;> try (exfalso;omega)))|refine sq ?_|refine rg ?_|refine xc ?_|refine nl ?_|refine rt ?_
   exact r1 ⟨hu,rfl⟩
  ·obtain ⟨h,hh⟩ : ∃ h:Nat,(max (x.length:Int) y.length + 1) / 2 = h:=⟨((max (x.length:Int) y.length + 1) / 2).toNat,by omega⟩
   obtain ⟨k1,hk1e⟩ : ∃ k1,k1 = min h x.length:=⟨_,rfl⟩
   obtain ⟨k2,hk2e⟩ : ∃ k2,k2 = min h y.length:=⟨_,rfl⟩
   have hc1:=fun u1 c=>cut_tr u1 x h c
   have hc2:=fun u2 c=>cut_tr u2 y h c
   simp only [← hk1e] at hc1
   simp only [← hk2e] at hc2
   have hk1:k1 ≤ x.length:=by omega
   have hk2:k2 ≤ y.length:=by omega
   have hb4:4 ≤ x.length∧4 ≤ y.length:=by omega
   have hhM:h + 1 < M∧h ≤ 68719476736:=by omega
   have t1l:(x.take k1).length ≤ h:=by rw [List.length_take];omega
   have t2l:(y.take k2).length ≤ h:=by rw [List.length_take];omega
   have d1l:(x.drop k1).length ≤ h:=by rw [List.length_drop];omega
   have d2l:(y.drop k2).length ≤ h:=by rw [List.length_drop];omega
   have e0:=Nat.le_trans (dg_len_le (hxd.take k1)) t1l
   have e1:=Nat.le_trans (dg_len_le (hxd.drop k1)) d1l
   have e2:=Nat.le_trans (dg_len_le (hyd.take k2)) t2l
   have e3:=Nat.le_trans (dg_len_le (hyd.drop k2)) d2l
   have cx:nv x = nv (x.take k1) + 18446744073709551616 ^ h * nv (x.drop k1):=by
    rcases Nat.lt_or_ge x.length h with h0 | h0
    ·rw [List.take_of_length_le (by omega),List.drop_eq_nil_of_le (by omega)];simp [nv]
    ·rw [show k1 = h by omega];exact nv_cut x h
   have cy:nv y = nv (y.take k2) + 18446744073709551616 ^ h * nv (y.drop k2):=by
    rcases Nat.lt_or_ge y.length h with h0 | h0
    ·rw [List.take_of_length_le (by omega),List.drop_eq_nil_of_le (by omega)];simp [nv]
    ·rw [show k2 = h by omega];exact nv_cut y h
   have ihL:=fun u1 u2=>ih h (by omega) (slSub u1 0 k1) (slSub u2 0 k2) (x.take k1) (y.take k2) (hxd.take _) (hyd.take _) (by omega) (by omega) (by omega)
   have ihH:=fun u1 u2=>ih h (by omega) (slSub u1 k1 x.length) (slSub u2 k2 y.length) (x.drop k1) (y.drop k2) (hxd.drop _) (hyd.drop _) (by omega) (by omega) (by omega)
   have adA:=fun u1=>NAdd_tr (slSub u1 0 k1) (slSub u1 k1 x.length) (x.take k1) (x.drop k1) (hxd.take _) (hxd.drop _) (by omega) (by omega)
   have adB:=fun u2=>NAdd_tr (slSub u2 0 k2) (slSub u2 k2 y.length) (y.take k2) (y.drop k2) (hyd.take _) (hyd.drop _) (by omega) (by omega)
   obtain ⟨a0,ha0⟩ : ∃ a0,a0 = nv (x.take k1):=⟨_,rfl⟩
   obtain ⟨a1,ha1⟩ : ∃ a1,a1 = nv (x.drop k1):=⟨_,rfl⟩
   obtain ⟨b0,hb0⟩ : ∃ b0,b0 = nv (y.take k2):=⟨_,rfl⟩
   obtain ⟨b1,hb1⟩ : ∃ b1,b1 = nv (y.drop k2):=⟨_,rfl⟩
   simp only [← ha0,← ha1,← hb0,← hb1] at ihL ihH adA adB cx cy e0 e1 e2 e3
   have sA:=dg_add_len e0 e1
   have sB:=dg_add_len e2 e3
   have ihM:=fun sa sb=>ih (h + 1) (by omega) sa sb (dg (a0 + a1)) (dg (b0 + b1)) (Dg_dg _) (Dg_dg _) (by omega) (by omega) (by rw [nv_dg,nv_dg];omega)
   simp only [nv_dg] at ihM
   have lL:=dg_mul_len e0 e2
   have lH:=dg_mul_len e1 e3
   have lP:=dg_mul_len sA sB
   have hle:a0 * b0 + a1 * b1 ≤ (a0 + a1) * (b0 + b1):=by rw [Nat.add_mul,Nat.mul_add,Nat.mul_add];omega
   have hK:=kara (a0:=a0) (a1:=a1) (b0:=b0) (b1:=b1) (p:=18446744073709551616 ^ h)
   rw [← cx,← cy,hxn,hyn] at hK
   obtain ⟨L,hL⟩ : ∃ L,L = a0 * b0:=⟨_,rfl⟩
   obtain ⟨H,hH⟩ : ∃ H,H = a1 * b1:=⟨_,rfl⟩
   obtain ⟨Q,hQ⟩ : ∃ Q,Q = (a0 + a1) * (b0 + b1):=⟨_,rfl⟩
   simp only [← hL,← hH,← hQ] at ihL ihH ihM lL lH lP hle hK
   have lsM:=fun ml lv lw hg hml=>less_tr ml lv lw hg (dg Q) (dg L) (dg H) (Dg_dg _) (Dg_dg _) (Dg_dg _) (by omega) (by omega) (by omega) hml (by rw [nv_dg,nv_dg,nv_dg];exact hle)
   simp only [nv_dg] at lsM
   have lM:(dg (Q - L - H)).length ≤ h + 1 + (h + 1):=Nat.le_trans (dg_mono (Nat.le_trans (Nat.sub_le _ _) (Nat.sub_le _ _))) lP
   obtain ⟨Md,hMd⟩ : ∃ Md,Md = Q - L - H:=⟨_,rfl⟩
   simp only [← hMd] at lsM lM hK
   have atM:=fun md=>nat_tr md (dg Md) h (Dg_dg _) (by omega)
   have atH:=fun hg=>nat_tr hg (dg H) (2 * h) (Dg_dg _) (by omega)
   simp only [nv_dg] at atM atH
   have lsum:∀ m1:List Nat,nv m1 = 18446744073709551616 ^ h * Md→(dg (nv (dg L) + nv m1)).length ≤ 1099511627776:=fun m1 hm1=>by
    refine Nat.le_trans (dg_add_len (i:=3 * h + 3) (by rw [nv_dg];omega) ?_) (by omega)
    rw [hm1]
    refine Nat.le_trans (dg_mul_len (i:=h + 1) (j:=h + 1 + (h + 1)) ((dg_len _ _).2 (Nat.pow_lt_pow_right (by decide) (by omega))) lM) (by omega)
   have hfin:∀ m1 m3:List Nat,nv m1 = 18446744073709551616 ^ h * Md→nv m3 = 18446744073709551616 ^ (2 * h) * H→nv (dg (nv (dg L) + nv m1)) + nv m3 = na * nb:=fun m1 m3 g1 g3=>by
    rw [nv_dg,nv_dg,g1,g3,← hK,Nat.two_mul,Nat.pow_add]
   clear hK hle hMd hQ hH hL cx cy ha0 ha1 hb0 hb1 ih sA sB e0 e1 e2 e3 hxn hyn t1l t2l d1l d2l hal hbl hk1e hk2e
   repeat' first|(refine gca ?_;first|(refine ca hTa ?_;rintro u1 _ ⟨hu1,rfl⟩)|(refine ca hTb ?_;rintro u2 _ ⟨hu2,rfl⟩))|refine mnn ?_|refine mxx ?_|(refine adiv ?_;rw [hh])|(refine al fun c=>?_)|(refine cav (cap:=#[ptr c]) (vs:=[u1]) (hc1 u1 c) ?_;rintro _ _ ⟨rfl,rfl⟩)|(refine cav (cap:=#[ptr c]) (vs:=[u2]) (hc2 u2 c) ?_;rintro _ _ ⟨rfl,rfl⟩)|refine rs (id:=8) (fun w=>w.heap[c7]? = some (.cells [halF c5 c7].toArray TMul (0,0))) ?_ (fun w hw=>lpt_at memA hw)|(refine wo ?_;first|(refine ao ?_;first|refine aw ?_|refine oa ?_)|refine oa ?_|refine ldl ?_|refine lnm ?_|refine sr ?_)|(refine gc ?_;first|(refine ci (fun hB=>?_) (fun hB=>?_) <;> try (exfalso;omega)))|refine sq ?_|refine rg ?_|refine xc ?_|refine nl ?_|refine sk ?_
   refine tkl 0 (cs:=[halF c5 c7]) (fun w h=>h) ?_
   refine tka 1 ?_
   refine tka 2 ?_
   refine tkl 4 (cs:=[halF c5 c7]) (fun w h=>h) ?_
   refine tka 5 ?_
   refine tka 6 ?_
   refine t1 3 ?_
   refine cav (cap:=#[ptr c5,ptr c7]) (vs:=[slSub u1 0 k1,slSub u2 0 k2]) (ihL u1 u2) ?_ (hp:=has1 (has_take (has_own memA) hk1) (has1 (has_take (has_own memA) hk2) (has1 (has_lpt memA) (has1 (has_lpt memA) has0))))
   rintro lw _ ⟨hlw,rfl⟩
   refine nl ?_
   refine te (fun w hw=>lpt_at memA hw) ?_
   refine t1 7 ?_
   refine cav (cap:=#[ptr c5,ptr c7]) (vs:=[slSub u1 k1 x.length,slSub u2 k2 y.length]) (ihH u1 u2) ?_ (hp:=has1 (has_drop (has_own memA) hk1) (has1 (has_drop (has_own memA) hk2) (has1 (has_lpt memA) (has1 (has_lpt memA) has0))))
   rintro hg _ ⟨hhg,rfl⟩
   refine nl ?_
   refine te (fun w hw=>lpt_at memA hw) ?_
   refine tka 8 ?_
   refine tka 9 ?_
   refine t0 ?_
   refine xc ?_
   repeat' first|refine sq_cutX (a:=.region 9 _ _) (ι:=Value) (fun md=>md.oneCell' = true) (fun md=>[(7,ptr c),(13,lw),(14,hg),(15,md)]) (fun md=>[own T64 md (Us (dg Md)),own T64 hg (Us (dg H)),own T64 lw (Us (dg L)),pt c [I h] TRi]) ?_ (fun kb=>?_)|(refine wo ?_;first|(refine ao ?_;first|refine aw ?_|refine aw6 ?_|refine oa ?_|refine adiv ?_|refine amod ?_|refine shr1 ?_|refine shr ?_|refine umod ?_|refine isl ?_|refine ipe ?_|refine ipn ?_|refine ibe ?_)|refine acw ?_|refine ucv ?_|refine anw ?_|refine oa ?_|refine ld ?_|refine ldl ?_|refine lnm ?_|refine ixmn ?_|refine ixm ?_|refine li ?_|refine lb ?_|refine lv ?_|refine ln ?_|refine ixn ?_|refine ix ?_|refine le ?_|refine sr ?_|refine soi ?_|refine sob ?_|refine scm ?_|refine sclm ?_|refine schm ?_|refine gy ?_|refine gn ?_|refine gnn ?_|refine gu ?_|(refine gsi (fun hB=>?_) (fun hB=>?_) <;> try (exfalso;omega))|(refine gsn (fun hB=>?_) (fun hB=>?_) <;> try (exfalso;omega))|(refine gs (fun hB=>?_) (fun hB=>?_) <;> try (exfalso;omega)))|(refine gc ?_;first|refine ct ?_|refine cf ?_|(refine ci (fun hB=>?_) (fun hB=>?_) <;> try (exfalso;omega))|(refine cn (fun hB=>?_) (fun hB=>?_) <;> try (exfalso;omega))|(refine cb (fun hB=>?_) (fun hB=>?_) <;> try (exfalso;omega)))|refine sq ?_|refine rg ?_|refine xc ?_|refine nl ?_|refine sk ?_|refine bk ?_|refine xe ?_|refine rt ?_|refine xb ?_
   ·intro md hmd
    repeat' first|refine rs (id:=10) (fun w=>w.heap[c]? = some (.cells [I h].toArray TRi (0,0))) ?_ (fun w hw=>pt_at memA hw)|refine sq ?_
    refine tka 0 ?_
    refine tka 1 ?_
    refine tkl 2 (cs:=[I h]) (fun w h=>h) ?_
    refine tka 5 ?_
    refine tkl 6 (cs:=[I h]) (fun w h=>h) ?_
    refine tkw 7 (((2 * h:Nat)):Int) ?_
    refine t1 3 ?_
    refine ca (atM md) ?_
    rintro z1 _ ⟨hz1,m1,rfl,dm1,nm1,lm1⟩
    refine nl ?_
    refine te (fun w hw=>pt_at memA hw) ?_
    refine t1 4 ?_
    refine ca (NAdd_tr lw z1 (dg L) m1 (Dg_dg _) dm1 (by omega) (by omega)) ?_
    rintro z2 _ ⟨hz2,rfl⟩
    refine nl ?_
    refine te (fun w hw=>pt_at memA hw) ?_
    refine t1 8 ?_
    refine ca (atH hg) ?_
    rintro z3 _ ⟨hz3,m3,rfl,dm3,nm3,lm3⟩
    refine nl ?_
    refine te (fun w hw=>pt_at memA hw) ?_
    refine t1 9 ?_
    refine ca (NAdd_tr z2 z3 (dg (nv (dg L) + nv m1)) m3 (Dg_dg _) dm3 (lsum m1 nm1) (by omega)) ?_
    rintro z4 _ ⟨hz4,rfl⟩
    refine nl ?_
    refine te (fun w hw=>pt_at memA hw) ?_
    refine tka 10 ?_
    refine t0 ?_
    skip
    rw [hfin m1 m3 nm1 nm3]
    repeat' first|refine xc ?_|refine rt ?_
    exact r1 ⟨hz4,rfl⟩
   ·repeat' first|refine rs (id:=9) (fun w=>w.heap[c7]? = some (.cells [halF c5 c7].toArray TMul (0,0))) ?_ (fun w hw=>lpt_at memA hw)|(refine wo ?_;first|(refine ao ?_;first|refine aw ?_|refine aw6 ?_|refine oa ?_|refine adiv ?_|refine amod ?_|refine shr1 ?_|refine shr ?_|refine umod ?_|refine isl ?_|refine ipe ?_|refine ipn ?_|refine ibe ?_)|refine acw ?_|refine ucv ?_|refine anw ?_|refine oa ?_|refine ld ?_|refine ldl ?_|refine lnm ?_|refine ixmn ?_|refine ixm ?_|refine li ?_|refine lb ?_|refine lv ?_|refine ln ?_|refine ixn ?_|refine ix ?_|refine le ?_|refine sr ?_|refine soi ?_|refine sob ?_|refine scm ?_|refine sclm ?_|refine schm ?_|refine gy ?_|refine gn ?_|refine gnn ?_|refine gu ?_|(refine gsi (fun hB=>?_) (fun hB=>?_) <;> try (exfalso;omega))|(refine gsn (fun hB=>?_) (fun hB=>?_) <;> try (exfalso;omega))|(refine gs (fun hB=>?_) (fun hB=>?_) <;> try (exfalso;omega)))|(refine gc ?_;first|refine ct ?_|refine cf ?_|(refine ci (fun hB=>?_) (fun hB=>?_) <;> try (exfalso;omega))|(refine cn (fun hB=>?_) (fun hB=>?_) <;> try (exfalso;omega))|(refine cb (fun hB=>?_) (fun hB=>?_) <;> try (exfalso;omega)))|refine sq ?_|refine rg ?_|refine xc ?_|refine nl ?_|refine sk ?_|refine bk ?_|refine xe ?_|refine rt ?_|refine xb ?_
    refine tkl 0 (cs:=[halF c5 c7]) (fun w h=>h) ?_
    refine tka 1 ?_
    refine tka 2 ?_
    refine tka 4 ?_
    refine tka 5 ?_
    refine tka 8 ?_
    refine tka 9 ?_
    refine t2 3 10 ?_ ?_
    ·refine ca (adA u1) ?_ (hp:=has1 (has_take (has_own memA) hk1) (has1 (has_drop (has_own memA) hk1) has0))
     rintro sa _ ⟨hsa,rfl⟩
     refine nl ?_
     refine te (fun w hw=>lpt_at memA hw) ?_
     refine t2 6 10 ?_ ?_
     ·refine ca (adB u2) ?_ (hp:=has1 (has_take (has_own memA) hk2) (has1 (has_drop (has_own memA) hk2) has0))
      rintro sb _ ⟨hsb,rfl⟩
      refine nl ?_
      refine te (fun w hw=>lpt_at memA hw) ?_
      refine t2 7 10 ?_ ?_
      ·refine cav (cap:=#[ptr c5,ptr c7]) (vs:=[sa,sb]) (ihM sa sb) ?_
       rintro ml _ ⟨hml,rfl⟩
       refine nl ?_
       refine te (fun w hw=>lpt_at memA hw) ?_
       refine t1 10 ?_
       refine sli (vs:=[lw,hg]) (fun lv=>?_) (h1:=one_cons hlw (one_cons hhg one_nil))
       refine nl ?_
       refine te (fun w hw=>lpt_at memA hw) ?_
       refine t1 11 ?_
       refine ca (lsM ml lv lw hg hml) ?_
       rintro md _ ⟨hmd,rfl⟩
       refine nl ?_
       refine te (fun w hw=>lpt_at memA hw) ?_
       refine tka 12 ?_
       refine t0 ?_
       refine xc ?_
       exact kb md hmd _ _ (by (repeat (refine Sub.cons rfl (by first | rfl | go_num) ?_));exact Sub.nil) fitA
      ·refine sli (vs:=[lw,hg]) (fun lv=>?_) (h1:=one_cons hlw (one_cons hhg one_nil))
       refine nl ?_
       refine te (fun w hw=>lpt_at memA hw) ?_
       refine t1 7 ?_
       refine cav (cap:=#[ptr c5,ptr c7]) (vs:=[sa,sb]) (ihM sa sb) ?_
       rintro ml _ ⟨hml,rfl⟩
       refine nl ?_
       refine te (fun w hw=>lpt_at memA hw) ?_
       refine t1 11 ?_
       refine ca (lsM ml lv lw hg hml) ?_
       rintro md _ ⟨hmd,rfl⟩
       refine nl ?_
       refine te (fun w hw=>lpt_at memA hw) ?_
       refine tka 12 ?_
       refine t0 ?_
       refine xc ?_
       exact kb md hmd _ _ (by (repeat (refine Sub.cons rfl (by first | rfl | go_num) ?_));exact Sub.nil) fitA
     ·refine sli (vs:=[lw,hg]) (fun lv=>?_) (h1:=one_cons hlw (one_cons hhg one_nil))
      refine nl ?_
      refine te (fun w hw=>lpt_at memA hw) ?_
      refine t1 6 ?_
      refine ca (adB u2) ?_ (hp:=has1 (has_take (has_own memA) hk2) (has1 (has_drop (has_own memA) hk2) has0))
      rintro sb _ ⟨hsb,rfl⟩
      refine nl ?_
      refine te (fun w hw=>lpt_at memA hw) ?_
      refine t1 7 ?_
      refine cav (cap:=#[ptr c5,ptr c7]) (vs:=[sa,sb]) (ihM sa sb) ?_
      rintro ml _ ⟨hml,rfl⟩
      refine nl ?_
      refine te (fun w hw=>lpt_at memA hw) ?_
      refine t1 11 ?_
      refine ca (lsM ml lv lw hg hml) ?_
      rintro md _ ⟨hmd,rfl⟩
      refine nl ?_
      refine te (fun w hw=>lpt_at memA hw) ?_
      refine tka 12 ?_
      refine t0 ?_
      refine xc ?_
      exact kb md hmd _ _ (by (repeat (refine Sub.cons rfl (by first | rfl | go_num) ?_));exact Sub.nil) fitA
    ·refine sli (vs:=[lw,hg]) (fun lv=>?_) (h1:=one_cons hlw (one_cons hhg one_nil))
     refine nl ?_
     refine te (fun w hw=>lpt_at memA hw) ?_
     refine t1 3 ?_
     refine ca (adA u1) ?_ (hp:=has1 (has_take (has_own memA) hk1) (has1 (has_drop (has_own memA) hk1) has0))
     rintro sa _ ⟨hsa,rfl⟩
     refine nl ?_
     refine te (fun w hw=>lpt_at memA hw) ?_
     refine t1 6 ?_
     refine ca (adB u2) ?_ (hp:=has1 (has_take (has_own memA) hk2) (has1 (has_drop (has_own memA) hk2) has0))
     rintro sb _ ⟨hsb,rfl⟩
     refine nl ?_
     refine te (fun w hw=>lpt_at memA hw) ?_
     refine t1 7 ?_
     refine cav (cap:=#[ptr c5,ptr c7]) (vs:=[sa,sb]) (ihM sa sb) ?_
     rintro ml _ ⟨hml,rfl⟩
     refine nl ?_
     refine te (fun w hw=>lpt_at memA hw) ?_
     refine t1 11 ?_
     refine ca (lsM ml lv lw hg hml) ?_
     rintro md _ ⟨hmd,rfl⟩
     refine nl ?_
     refine te (fun w hw=>lpt_at memA hw) ?_
     refine tka 12 ?_
     refine t0 ?_
     refine xc ?_
     exact kb md hmd _ _ (by (repeat (refine Sub.cons rfl (by first | rfl | go_num) ?_));exact Sub.nil) fitA
end Go.Art
namespace Go.Art
open Go Go.Proofs Go.RowKit
attribute [local irreducible] Fit pt own ro vw mpc lpt vels rels mow lrc dfr
theorem halves_tr (va vb:Value) (a b:List Nat) (least:Int) (ha:Dg a) (hb:Dg b) (hla:a.length ≤ 68719476736) (hlb:b.length ≤ 68719476736):Tr Tryz.prog 184 [va,vb,I least] [vw va (Us a),vw vb (Us b)] [] fun u D=>u.oneCell' = true∧D = [own T64 u (Us (dg (nv a * nv b)))]:=by
 have hC:=fun c5 c7=>hal1_tr c5 c7 least (max (dg (nv a)).length (dg (nv b)).length) va vb a b ha hb hla hlb (Nat.le_refl _)
 obtain ⟨m,hm⟩ : ∃ m,m = nv a * nv b:=⟨_,rfl⟩
 simp only [← hm] at hC
 rw [← hm]
 refine Tr.enter env _ Tryz.func184 (by kernel_rfl) rfl Tryz.ntmps184 rfl (by repeat (first | exact has00 | refine has01 ?_)) fun w0=>?_
 repeat' first|refine bx1 fun c5=>?_|refine al fun c7=>?_|(refine wo ?_;first|refine oa ?_|refine ld ?_|refine sr ?_)|refine sq ?_|refine rg ?_|refine xc ?_|refine nl ?_
 repeat' first|(refine cav (cap:=#[ptr c5,ptr c7]) (vs:=[va,vb]) (hC c5 c7) ?_;rintro u _ ⟨hu,rfl⟩)|(refine wo ?_;first|refine oa ?_)|refine xc ?_|refine nl ?_|refine rt ?_
 exact r1 ⟨hu,rfl⟩
theorem NMul_tr (va vb:Value) (a b:List Nat) (ha:Dg a) (hb:Dg b) (hla:a.length ≤ 68719476736) (hlb:b.length ≤ 68719476736):Tr Tryz.prog 124 [va,vb] [vw va (Us a),vw vb (Us b)] [] fun u D=>u.oneCell' = true∧D = [own T64 u (Us (dg (nv a * nv b)))]:=by
 refine Tr.enter env _ Tryz.func124 (by kernel_rfl) rfl Tryz.ntmps124 rfl (by repeat (first | exact has00 | refine has01 ?_)) fun w0=>?_
 repeat' first|(refine gca ?_;first|(refine ca (halves_tr va vb a b 32 ha hb hla hlb) ?_;rintro u _ ⟨hu,rfl⟩))|(refine wo ?_;first|refine oa ?_)|refine sq ?_|refine rg ?_|refine xc ?_|refine nl ?_|refine rt ?_
 exact r1 ⟨hu,rfl⟩
end Go.Art
namespace Go.Art
open Go Go.Proofs Go.RowKit
theorem sg_mul (z1 z2:Int):sg (!(decide (z1 < 0) == decide (z2 < 0))) (z1.natAbs * z2.natAbs) = z1 * z2:=by
 have h1:(z1 = z1.natAbs∧0 ≤ z1)∨(z1 = -(z1.natAbs:Int)∧z1 < 0):=by omega
 have h2:(z2 = z2.natAbs∧0 ≤ z2)∨(z2 = -(z2.natAbs:Int)∧z2 < 0):=by omega
 generalize z1.natAbs = a at *
 generalize z2.natAbs = b at *
 unfold sg
 rcases h1 with ⟨e1,g1⟩ | ⟨e1,g1⟩ <;> rcases h2 with ⟨e2,g2⟩ | ⟨e2,g2⟩
 ·simp only [show decide (z1 < 0) = false from decide_eq_false (by omega),show decide (z2 < 0) = false from decide_eq_false (by omega)]
  rw [e1,e2];simp
 ·simp only [show decide (z1 < 0) = false from decide_eq_false (by omega),show decide (z2 < 0) = true from decide_eq_true g2]
  rw [e1,e2];simp [Int.mul_neg]
 ·simp only [show decide (z1 < 0) = true from decide_eq_true g1,show decide (z2 < 0) = false from decide_eq_false (by omega)]
  rw [e1,e2];simp [Int.neg_mul]
 ·simp only [show decide (z1 < 0) = true from decide_eq_true g1,show decide (z2 < 0) = true from decide_eq_true g2]
  rw [e1,e2];simp [Int.neg_mul_neg]
theorem dz_mul {z1 z2:Int} {B:Nat} (h1:(dz z1).length ≤ B) (h2:(dz z2).length ≤ B):(dz (z1 * z2)).length ≤ 2 * B:=by
 unfold dz at *
 rw [Int.natAbs_mul]
 exact Nat.le_trans (dg_mul_len h1 h2) (by omega)
attribute [local irreducible] Fit pt own ro vw mpc lpt vels rels mow lrc dfr
theorem IMulF_tr (b1 b2:Bool) (v1 v2:Value) (l1 l2:List Nat) (d1:Dg l1) (d2:Dg l2) (h1:l1.length ≤ 34359738368) (h2:l2.length ≤ 34359738368) :
  Tr Tryz.prog 122 [.agg #[.bool b1,v1],.agg #[.bool b2,v2]] [vw v1 (Us l1),vw v2 (Us l2)] [] (IR (sg (!(b1 == b2)) (nv l1 * nv l2))):=by
 have hM:=NMul_tr v1 v2 l1 l2 d1 d2 (by omega) (by omega)
 have hlen:(dg (nv l1 * nv l2)).length ≤ 1099511627776:=by
  have:=dg_mul_len (dg_len_le d1) (dg_len_le d2)
  omega
 have hI:=fun b o=>IMake_tr b o (dg (nv l1 * nv l2)) (Dg_dg _) hlen
 rw [nv_dg] at hI
 unfold IR at hI ⊢
 obtain ⟨z,hz⟩ : ∃ z,z = sg (!(b1 == b2)) (nv l1 * nv l2):=⟨_,rfl⟩
 have hI2:=hI (!(b1 == b2))
 rw [← hz] at hI2 ⊢
 clear hI hz hlen
 generalize dg (nv l1 * nv l2) = pd at *
 refine Tr.enter env _ Tryz.func122 (by kernel_rfl) rfl Tryz.ntmps122 rfl (by repeat (first | exact has00 | refine has01 ?_)) fun w0=>?_
 repeat' first|refine bx fun q=>?_|refine al fun c=>?_|refine sq ?_|refine rg ?_|refine xc ?_|refine nl ?_
 rename_i q1
 refine rs (fun w=>w.heap[q1]? = some (.cells [.bool b1,v1].toArray TIt (0,0))∧w.heap[q]? = some (.cells [.bool b2,v2].toArray TIt (0,0))) ?_ (fun w hw=>⟨pt_at memA hw,pt_at memA hw⟩)
 refine tka 0 ?_
 refine tkl 1 (cs:=[.bool b1,v1]) (fun w h=>h.1) ?_
 refine tka 2 ?_
 refine tkl 3 (cs:=[.bool b2,v2]) (fun w h=>h.2) ?_
 refine tk 4 (v:=.bool (!(b1 == b2))) (fun _ _=>R_bne (E:=env) rfl rfl rfl) ?_
 refine tka 5 ?_
 refine tkl 6 (cs:=[.bool b1,v1]) (fun w h=>h.1) ?_
 refine tka 7 ?_
 refine tkl 8 (cs:=[.bool b2,v2]) (fun w h=>h.2) ?_
 refine t1 9 ?_
 refine ca hM ?_
 rintro o _ ⟨ho,rfl⟩
 refine nl ?_
 refine te (fun w hw=>⟨pt_at memA hw,pt_at memA hw⟩) ?_
 refine t1 10 ?_
 refine ca (hI2 o) ?_
 rintro _ _ ⟨o2,rfl,ho2,rfl⟩
 refine nl ?_
 refine te (fun w hw=>⟨pt_at memA hw,pt_at memA hw⟩) ?_
 refine t1 11 ?_
 refine srz ?_
 refine nl ?_
 refine te (fun w hw=>⟨pt_at memA hw,pt_at memA hw⟩) ?_
 refine t0 ?_
 repeat' first|refine xc ?_|refine rt ?_
 exact rca1 (cs:=[.bool (decide (z < 0)),o2]) (vs:=[.bool (decide (z < 0)),o2]) (T:=TIt) ⟨o2,rfl,ho2,rfl⟩
theorem along_tr (z1 z2:Int) (v1 v2:Value) (hs:decide (z1 < 0) = decide (z2 < 0)) (h1:(dz z1).length ≤ 549755813888) (h2:(dz z2).length ≤ 549755813888) :
  Tr Tryz.prog 181 [iv z1 v1,iv z2 v2] [vw v1 (Us (dz z1)),vw v2 (Us (dz z2))] [] (IR (z1 + z2)):=by
 have hA:=NAdd_tr v1 v2 (dz z1) (dz z2) (Dg_dg _) (Dg_dg _) (by omega) (by omega)
 have hlen:(dg (nv (dz z1) + nv (dz z2))).length ≤ 1099511627776:=by
  unfold dz at *
  rw [nv_dg,nv_dg]
  have:=dg_add_len (i:=549755813888) h1 h2
  omega
 have hI:=fun o=>IMake_tr (decide (z1 < 0)) o (dg (nv (dz z1) + nv (dz z2))) (Dg_dg _) hlen
 have e:sg (decide (z1 < 0)) (nv (dz z1) + nv (dz z2)) = z1 + z2:=by
  unfold sg dz
  rw [nv_dg,nv_dg]
  by_cases h:z1 < 0
  ·have:=of_decide_eq_true (hs.symm.trans (decide_eq_true h))
   rw [if_pos (by simpa using h)];omega
  ·have:=of_decide_eq_false (hs.symm.trans (decide_eq_false h))
   rw [if_neg (by simpa using h)];omega
 rw [show nv (dg (nv (dz z1) + nv (dz z2))) = nv (dz z1) + nv (dz z2) from nv_dg _,e] at hI
 unfold IR at hI ⊢
 obtain ⟨z,hz⟩ : ∃ z,z = z1 + z2:=⟨_,rfl⟩
 rw [← hz] at hI ⊢
 clear hz hlen e hs
 generalize dg (nv (dz z1) + nv (dz z2)) = pd at *
 show Tr _ _ [.agg #[.bool (decide (z1 < 0)),v1],.agg #[.bool (decide (z2 < 0)),v2]] _ _ _
 generalize decide (z1 < 0) = b1 at *
 generalize decide (z2 < 0) = b2 at *
 generalize dz z1 = l1 at *
 generalize dz z2 = l2 at *
 refine Tr.enter env _ Tryz.func181 (by kernel_rfl) rfl Tryz.ntmps181 rfl (by repeat (first | exact has00 | refine has01 ?_)) fun w0=>?_
 repeat' first|refine bx fun q=>?_|refine al fun c=>?_|refine sq ?_|refine rg ?_|refine xc ?_|refine nl ?_
 rename_i q1
 refine rs (fun w=>w.heap[q1]? = some (.cells [.bool b1,v1].toArray TIt (0,0))∧w.heap[q]? = some (.cells [.bool b2,v2].toArray TIt (0,0))) ?_ (fun w hw=>⟨pt_at memA hw,pt_at memA hw⟩)
 refine tka 0 ?_
 refine tkl 1 (cs:=[.bool b1,v1]) (fun w h=>h.1) ?_
 refine tka 2 ?_
 refine tkl 3 (cs:=[.bool b1,v1]) (fun w h=>h.1) ?_
 refine tka 4 ?_
 refine tkl 5 (cs:=[.bool b2,v2]) (fun w h=>h.2) ?_
 refine t1 6 ?_
 refine ca hA ?_
 rintro o _ ⟨ho,rfl⟩
 refine nl ?_
 refine te (fun w hw=>⟨pt_at memA hw,pt_at memA hw⟩) ?_
 refine t1 7 ?_
 refine ca (hI o) ?_
 rintro _ _ ⟨o2,rfl,ho2,rfl⟩
 refine nl ?_
 refine te (fun w hw=>⟨pt_at memA hw,pt_at memA hw⟩) ?_
 refine t1 8 ?_
 refine srz ?_
 refine nl ?_
 refine te (fun w hw=>⟨pt_at memA hw,pt_at memA hw⟩) ?_
 refine t0 ?_
 repeat' first|refine xc ?_|refine rt ?_
 exact rca1 (cs:=[.bool (decide (z < 0)),o2]) (vs:=[.bool (decide (z < 0)),o2]) (T:=TIt) ⟨o2,rfl,ho2,rfl⟩
theorem against_tr (z1 z2:Int) (v1 v2:Value) (hs:decide (z1 < 0) ≠ decide (z2 < 0)) (h1:(dz z1).length ≤ 549755813888) (h2:(dz z2).length ≤ 549755813888) :
  Tr Tryz.prog 182 [iv z1 v1,iv z2 v2] [vw v1 (Us (dz z1)),vw v2 (Us (dz z2))] [] (IR (z1 + z2)):=by
 have hnn:(z1 < 0∧¬ z2 < 0)∨(¬ z1 < 0∧z2 < 0):=by
  by_cases g1:z1 < 0
  ·by_cases g2:z2 < 0
   ·exact absurd (by rw [decide_eq_true g1,decide_eq_true g2]) hs
   ·exact .inl ⟨g1,g2⟩
  ·by_cases g2:z2 < 0
   ·exact .inr ⟨g1,g2⟩
   ·exact absurd (by rw [decide_eq_false g1,decide_eq_false g2]) hs
 by_cases hle:z2.natAbs ≤ z1.natAbs
 ·have hA:=NSub_tr v1 v2 (dz z1) (dz z2) (Dg_dg _) (Dg_dg _) (by omega) (by omega) (by unfold dz;rw [nv_dg,nv_dg];exact hle)
  have hlen:(dg (nv (dz z1) - nv (dz z2))).length ≤ 1099511627776:=by
   unfold dz at *
   rw [nv_dg,nv_dg]
   exact Nat.le_trans (dg_mono (Nat.sub_le _ _)) (by omega)
  have hI:=fun o=>IMake_tr (decide (z1 < 0)) o (dg (nv (dz z1) - nv (dz z2))) (Dg_dg _) hlen
  have e:sg (decide (z1 < 0)) (nv (dz z1) - nv (dz z2)) = z1 + z2:=by
   unfold sg dz
   rw [nv_dg,nv_dg]
   by_cases h:z1 < 0
   ·rw [if_pos (by simpa using h)];omega
   ·rw [if_neg (by simpa using h)];omega
  rw [show nv (dg (nv (dz z1) - nv (dz z2))) = nv (dz z1) - nv (dz z2) from nv_dg _,e] at hI
  unfold IR at hI ⊢
  obtain ⟨z,hz⟩ : ∃ z,z = z1 + z2:=⟨_,rfl⟩
  rw [← hz] at hI ⊢
  clear hz hlen e hs hnn hle
  generalize dg (nv (dz z1) - nv (dz z2)) = pd at *
  show Tr _ _ [.agg #[.bool (decide (z1 < 0)),v1],.agg #[.bool (decide (z2 < 0)),v2]] _ _ _
  generalize decide (z1 < 0) = b1 at *
  generalize decide (z2 < 0) = b2 at *
  generalize dz z1 = l1 at *
  generalize dz z2 = l2 at *
  refine Tr.enter env _ Tryz.func182 (by kernel_rfl) rfl Tryz.ntmps182 rfl (by repeat (first | exact has00 | refine has01 ?_)) fun w0=>?_
  repeat' first|(refine gca ?_;first|(refine ca hA ?_;rintro _ _ ⟨o,rfl,ho,rfl⟩)|(refine ca (hI o) ?_;rintro _ _ ⟨o2,rfl,ho2,rfl⟩))|refine bx fun q=>?_|refine al fun c=>?_|refine srz ?_|(refine wo ?_;first|(refine ao ?_;first|refine oa ?_)|refine oa ?_|refine ld ?_)|(refine gc ?_;first|refine ct ?_)|refine sq ?_|refine rg ?_|refine xc ?_|refine nl ?_|refine rt ?_
  exact rca1 (cs:=[.bool (decide (z < 0)),o2]) (vs:=[.bool (decide (z < 0)),o2]) (T:=TIt) ⟨o2,rfl,ho2,rfl⟩
 ·have hA:=NSub0_tr v1 v2 (dz z1) (dz z2) (Dg_dg _) (Dg_dg _) (by unfold dz;rw [nv_dg,nv_dg];omega)
  have hB2:=NSub_tr v2 v1 (dz z2) (dz z1) (Dg_dg _) (Dg_dg _) (by omega) (by omega) (by unfold dz;rw [nv_dg,nv_dg];omega)
  have hlen:(dg (nv (dz z2) - nv (dz z1))).length ≤ 1099511627776:=by
   unfold dz at *
   rw [nv_dg,nv_dg]
   exact Nat.le_trans (dg_mono (Nat.sub_le _ _)) (by omega)
  have hI:=fun o=>IMake_tr (decide (z2 < 0)) o (dg (nv (dz z2) - nv (dz z1))) (Dg_dg _) hlen
  have e:sg (decide (z2 < 0)) (nv (dz z2) - nv (dz z1)) = z1 + z2:=by
   unfold sg dz
   rw [nv_dg,nv_dg]
   by_cases h:z2 < 0
   ·rw [if_pos (by simpa using h)];omega
   ·rw [if_neg (by simpa using h)];omega
  rw [show nv (dg (nv (dz z2) - nv (dz z1))) = nv (dz z2) - nv (dz z1) from nv_dg _,e] at hI
  unfold IR at hI ⊢
  obtain ⟨z,hz⟩ : ∃ z,z = z1 + z2:=⟨_,rfl⟩
  rw [← hz] at hI ⊢
  clear hz hlen e hs hnn hle
  generalize dg (nv (dz z2) - nv (dz z1)) = pd at *
  show Tr _ _ [.agg #[.bool (decide (z1 < 0)),v1],.agg #[.bool (decide (z2 < 0)),v2]] _ _ _
  generalize decide (z1 < 0) = b1 at *
  generalize decide (z2 < 0) = b2 at *
  generalize dz z1 = l1 at *
  generalize dz z2 = l2 at *
  refine Tr.enter env _ Tryz.func182 (by kernel_rfl) rfl Tryz.ntmps182 rfl (by repeat (first | exact has00 | refine has01 ?_)) fun w0=>?_
  repeat' first|(refine gca ?_;first|(refine ca hA ?_;rintro _ _ ⟨rfl,rfl⟩)|(refine ca hB2 ?_;rintro _ _ ⟨o,rfl,ho,rfl⟩)|(refine ca (hI o) ?_;rintro _ _ ⟨o2,rfl,ho2,rfl⟩))|refine bx fun q=>?_|refine al fun c=>?_|refine srz ?_|(refine wo ?_;first|(refine ao ?_;first|refine oa ?_)|refine oa ?_|refine ld ?_)|(refine gc ?_;first|refine cf ?_)|refine sq ?_|refine rg ?_|refine xc ?_|refine nl ?_|refine sk ?_|refine rt ?_
  exact rca1 (cs:=[.bool (decide (z < 0)),o2]) (vs:=[.bool (decide (z < 0)),o2]) (T:=TIt) ⟨o2,rfl,ho2,rfl⟩
theorem IAdd_tr (z1 z2:Int) (v1 v2:Value) (g1:v1.oneCell' = true) (g2:v2.oneCell' = true) (h1:(dz z1).length ≤ 549755813888) (h2:(dz z2).length ≤ 549755813888) :
  Tr Tryz.prog 121 [iv z1 v1,iv z2 v2] [vw v1 (Us (dz z1)),vw v2 (Us (dz z2))] [] (IR (z1 + z2)):=by
 by_cases hs:decide (z1 < 0) = decide (z2 < 0)
 ·have hA:=along_tr z1 z2 v1 v2 hs h1 h2
  unfold IR at hA ⊢
  obtain ⟨z,hz⟩ : ∃ z,z = z1 + z2:=⟨_,rfl⟩
  rw [← hz] at hA ⊢
  clear hz
  show Tr _ _ [.agg #[.bool (decide (z1 < 0)),v1],.agg #[.bool (decide (z2 < 0)),v2]] _ _ _
  change Tr _ _ [.agg #[.bool (decide (z1 < 0)),v1],.agg #[.bool (decide (z2 < 0)),v2]] _ _ _ at hA
  rw [← hs] at hA ⊢
  generalize decide (z1 < 0) = b1 at *
  generalize dz z1 = l1 at *
  generalize dz z2 = l2 at *
  have hb:(!(b1 == b1)) = false:=by simp
  refine Tr.enter env _ Tryz.func121 (by kernel_rfl) rfl Tryz.ntmps121 rfl (by repeat (first | exact has00 | refine has01 ?_)) fun w0=>?_
  repeat' first|refine bx fun q=>?_|refine al fun c=>?_|(refine ibn ?_;rw [hb])|(refine wo ?_;first|refine oa ?_|refine ld ?_)|(refine gc ?_;first|refine cf ?_)|refine sq ?_|refine rg ?_|refine xc ?_|refine nl ?_|refine sk ?_
  rename_i q1
  refine rs (fun w=>w.heap[q1]? = some (.cells [.bool b1,v1].toArray TIt (0,0))∧w.heap[q]? = some (.cells [.bool b1,v2].toArray TIt (0,0))) ?_ (fun w hw=>⟨pt_at memA hw,pt_at memA hw⟩)
  refine tk 0 (v:=.agg #[.func (.func 181) #[] #[],.func (.func 182) #[] #[]]) (fun w h=>R_buildArr (E:=env) rfl rfl rfl rfl rfl) ?_
  refine tka 1 ?_
  refine tk 2 (v:=.func (.func 181) #[] #[]) (fun w h=>R_index1 (E:=env) (m:=2) (i:=0) rfl rfl rfl rfl rfl rfl (by decide) rfl) ?_
  refine tk 3 (v:=.agg #[.bool b1,v1]) (fun w h=>R_loadA (E:=env) (vs:=[.bool b1,v1]) rfl rfl rfl rfl h.1 rfl rfl) ?_
  refine tk 4 (v:=.agg #[.bool b1,v2]) (fun w h=>R_loadA (E:=env) (vs:=[.bool b1,v2]) rfl rfl rfl rfl h.2 rfl rfl) ?_
  refine t1 5 ?_
  refine cav (cap:=#[]) (vs:=[.agg #[.bool b1,v1],.agg #[.bool b1,v2]]) hA ?_
  rintro _ _ ⟨o2,rfl,ho2,rfl⟩
  refine nl ?_
  refine te (fun w hw=>⟨pt_at memA hw,pt_at memA hw⟩) ?_
  refine t1 6 ?_
  refine srz ?_
  refine nl ?_
  refine te (fun w hw=>⟨pt_at memA hw,pt_at memA hw⟩) ?_
  refine t0 ?_
  repeat' first|refine xc ?_|refine rt ?_
  exact rca1 (cs:=[.bool (decide (z < 0)),o2]) (vs:=[.bool (decide (z < 0)),o2]) (T:=TIt) ⟨o2,rfl,ho2,rfl⟩
 ·have hA:=against_tr z1 z2 v1 v2 hs h1 h2
  unfold IR at hA ⊢
  obtain ⟨z,hz⟩ : ∃ z,z = z1 + z2:=⟨_,rfl⟩
  rw [← hz] at hA ⊢
  clear hz
  show Tr _ _ [.agg #[.bool (decide (z1 < 0)),v1],.agg #[.bool (decide (z2 < 0)),v2]] _ _ _
  change Tr _ _ [.agg #[.bool (decide (z1 < 0)),v1],.agg #[.bool (decide (z2 < 0)),v2]] _ _ _ at hA
  generalize decide (z1 < 0) = b1 at *
  generalize decide (z2 < 0) = b2 at *
  generalize dz z1 = l1 at *
  generalize dz z2 = l2 at *
  have hb:(!(b1 == b2)) = true:=by simpa using hs
  refine Tr.enter env _ Tryz.func121 (by kernel_rfl) rfl Tryz.ntmps121 rfl (by repeat (first | exact has00 | refine has01 ?_)) fun w0=>?_
  repeat' first|refine bx fun q=>?_|refine al fun c=>?_|(refine ibn ?_;rw [hb])|(refine wo ?_;first|refine oa ?_|refine ld ?_)|(refine gc ?_;first|refine ct ?_)|refine sq ?_|refine rg ?_|refine xc ?_|refine nl ?_
  rename_i q1
  refine rs (fun w=>w.heap[q1]? = some (.cells [.bool b1,v1].toArray TIt (0,0))∧w.heap[q]? = some (.cells [.bool b2,v2].toArray TIt (0,0))) ?_ (fun w hw=>⟨pt_at memA hw,pt_at memA hw⟩)
  refine tk 0 (v:=.agg #[.func (.func 181) #[] #[],.func (.func 182) #[] #[]]) (fun w h=>R_buildArr (E:=env) rfl rfl rfl rfl rfl) ?_
  refine tka 1 ?_
  refine tk 2 (v:=.func (.func 182) #[] #[]) (fun w h=>R_index1 (E:=env) (m:=2) (i:=1) rfl rfl rfl rfl rfl rfl (by decide) rfl) ?_
  refine tk 3 (v:=.agg #[.bool b1,v1]) (fun w h=>R_loadA (E:=env) (vs:=[.bool b1,v1]) rfl rfl rfl rfl h.1 rfl rfl) ?_
  refine tk 4 (v:=.agg #[.bool b2,v2]) (fun w h=>R_loadA (E:=env) (vs:=[.bool b2,v2]) rfl rfl rfl rfl h.2 rfl rfl) ?_
  refine t1 5 ?_
  refine cav (cap:=#[]) (vs:=[.agg #[.bool b1,v1],.agg #[.bool b2,v2]]) hA ?_
  rintro _ _ ⟨o2,rfl,ho2,rfl⟩
  refine nl ?_
  refine te (fun w hw=>⟨pt_at memA hw,pt_at memA hw⟩) ?_
  refine t1 6 ?_
  refine srz ?_
  refine nl ?_
  refine te (fun w hw=>⟨pt_at memA hw,pt_at memA hw⟩) ?_
  refine t0 ?_
  repeat' first|refine xc ?_|refine rt ?_
  exact rca1 (cs:=[.bool (decide (z < 0)),o2]) (vs:=[.bool (decide (z < 0)),o2]) (T:=TIt) ⟨o2,rfl,ho2,rfl⟩
end Go.Art
namespace Go.Art
open Go Go.Proofs Go.RowKit
abbrev Fr3:=Bool × List Nat × List Nat
abbrev rqf (q:Rat):Fr3:=(decide (q.num < 0),dg q.num.natAbs,dg q.den)
abbrev rqn:Fr3:=(false,[],[])
abbrev FW (t:Fr3 × Int) (u:Value) (D:List Ch):Prop:=∃ vn vd,u = tup2 (.agg #[.bool t.1.1,vn,vd]) (I t.2)∧vn.oneCell' = true∧vd.oneCell' = true∧D = [own T64 vn (Us t.1.2.1),own T64 vd (Us t.1.2.2)]
theorem FW.of0 {e:Int} {u:Value} {D:List Ch} (h:u = tup2 rv0 (I e)∧D = [own T64 nS (Us []),own T64 nS (Us [])]):FW (rqn,e) u D:=⟨nS,nS,h.1,rfl,rfl,h.2⟩
def meaW (tot:Int) (cut oth:List Int) (k d:Int):Fr3 × Int:=
 if rwE tot cut oth k = 0 then (if d < 1∨cut.length < d then (rqn,3) else (rqf (mkRat 1 (fall k.toNat d.toNat * cut.length * tot.toNat)),0)) else (rqn,rwE tot cut oth k)
def chaW (t:List Int) (k d:Int):Fr3 × Int:=
 if solE t k = 0 then (if d < 1∨t.length < d then (rqn,3) else (rqf (mkRat (t.getD (d - 1).toNat 0) (chs k.toNat d.toNat * t.sum.toNat)),0)) else (rqn,13)
section
variable {P:Program} {E:Env P} {X:Cx} {fr:Fr} {A D G:List Ch}
theorem rcc {w0:World} {A0:List Ch} {R':Value→List Ch→Prop} {fn:Func} {t nn:Nat} {ty T:TypeId} {dt:TypeDesc} {b:Nat} {cs:List Value} {v:Value} (h:R' v D) (hr:fn.results = #[.cell t ty]:=by rfl) (ht:lk E.und ty = some dt:=by rfl) (hg:aggB dt = false:=by rfl)
  (hv:get fr t = some (ptr b):=by rfl) (hm:pt b cs T ∈ A:=by exact memA) (hc:cs[0]? = some v:=by rfl) (hf:Fit A D G:=by exact fitA) (nb:∀ c ∈ D,∀ b,¬ c.bd b:=by (repeat (first | exact nb0 | refine nb1 ?_));first | done | fail) :
  TX E ⟨nn,[],none⟩ ⟨bodyPost P fn (RetP (PR w0 A0 R')),w0,A0⟩ [] .ret fr A:=⟨fun w hw=>⟨fun a ha=>
 bodyPost_ret (res_c (E:=E) ha hr ht hg hv (ptcell hw.sat hm hc)) (ha.defers.trans rfl) ⟨_,rfl,PR.mk h hw hf nb⟩⟩⟩
end
attribute [local irreducible] Fit pt own ro vw mpc lpt vels rels mow lrc dfr
attribute [local irreducible] lmp lme mit velg relg
theorem one_tr:Tr Tryz.prog 70 [] [] [] fun u D=>u.oneCell' = true∧D = [own T64 u (Us [1])]:=by
 refine Tr.enter env _ Tryz.func70 (by kernel_rfl) rfl Tryz.ntmps70 rfl (by repeat (first | exact has00 | refine has01 ?_)) fun w0=>?_
 repeat' first|(refine slu [1] fun o ho=>?_)|(refine wo ?_;first|refine oa ?_)|refine sq ?_|refine rg ?_|refine xc ?_|refine nl ?_|refine rt ?_
 exact r1 ⟨ho,rfl⟩
theorem soAdd_tr (c:Nat) (m w:Int) (h : -9223372036854775808 ≤ m + w∧m + w ≤ 9223372036854775807):Tr Tryz.prog 198 [I w,ptr c] [] [pt c [I m] TLI] fun _ D=>D = [pt c [I (m + w)] TLI]:=by
 refine Tr.enter env _ Tryz.func198 (by kernel_rfl) rfl Tryz.ntmps198 rfl (by repeat (first | exact has00 | refine has01 ?_)) fun w0=>?_
 repeat' first|(refine wo ?_;first|(refine ao ?_;first|refine aw ?_)|refine oa ?_|refine ld ?_|refine sr ?_)|refine rg ?_|refine nl ?_
 exact e0 rfl
theorem SoTotal_tr (s:Value) (t:List Int) (h1:1 ≤ t.length∧t.length ≤ 65536) (hw:∀ w ∈ t,0 ≤ w∧w ≤ 16777215):Tr Tryz.prog 139 [s] [vw s (Is t)] [] fun v D=>v = I t.sum∧D = []:=by
 refine Tr.enter env _ Tryz.func139 (by kernel_rfl) rfl Tryz.ntmps139 rfl (by repeat (first | exact has00 | refine has01 ?_)) fun w0=>?_
 repeat' first|refine al fun c=>?_|(refine wo ?_;first|refine oa ?_|refine lnm ?_)|refine sq ?_|refine rg ?_|refine xc ?_|refine nl ?_|refine bk ?_
 refine TC.loop (ι:=Nat) (fun i=>[(9,I i)]) (fun i=>[pt c [I (t.take i).sum] TLI]) (fun i=>i ≤ t.length) (fun i=>t.length - i) 0 [2,3,7,8] (by simp) ?_
 rintro i h2
 by_cases hi:i < t.length
 ·have hs:=take_sum hi
  have hb:=hw _ (mem_getD.2 ⟨i,hi,rfl⟩)
  have hc:=sum_bound (t:=t.take i) fun w h=>hw w (List.mem_of_mem_take h)
  rw [List.length_take] at hc
  generalize hy:t.getD i 0 = y at *
  generalize (t.take i).sum = m at *
  repeat' first|refine lie hy ?_|(refine cav (cap:=#[ptr c]) (vs:=[I y]) (soAdd_tr c m y (by omega)) ?_;rintro _ _ rfl)|(refine wo ?_;first|(refine ao ?_;first|refine aw ?_|refine oa ?_)|refine oa ?_|refine ixmn ?_)|(refine gc ?_;first|(refine ci (fun hB=>?_) (fun hB=>?_) <;> try (exfalso;omega)))|refine sq ?_|refine rg ?_|refine xc ?_|refine nl ?_|refine sk ?_|refine bk ?_|refine xb ?_
  exact lp (i + 1) (by omega) (hf:=by rw [hs];exact fitA)
 ·obtain rfl:i = t.length:=by omega
  rw [List.take_length]
  repeat' first|(refine wo ?_;first|(refine ao ?_;first|refine oa ?_)|refine ld ?_|refine sr ?_)|(refine gc ?_;first|(refine ci (fun hB=>?_) (fun hB=>?_) <;> try (exfalso;omega)))|refine sq ?_|refine rg ?_|refine xc ?_|refine nl ?_|refine xe ?_|refine rt ?_
  exact rcc (cs:=[I t.sum]) (T:=TLI) ⟨rfl,rfl⟩
end Go.Art
namespace Go.Art
open Go Go.Proofs Go.RowKit
def FB (q:Rat) (B:Nat):Prop:=(dg q.num.natAbs).length ≤ B∧(dg q.den).length ≤ B
theorem FB.le {q:Rat} {B C:Nat} (h:FB q B) (k:B ≤ C):FB q C:=⟨Nat.le_trans h.1 k,Nat.le_trans h.2 k⟩
theorem sg_mulN (z:Int) (m:Nat):sg (!(decide (z < 0) == false)) (z.natAbs * m) = z * m:=by
 have:=sg_mul z (m:Int)
 rwa [show decide ((m:Int) < 0) = false from decide_eq_false (by omega),Int.natAbs_natCast] at this
theorem sg_dz (z:Int):sg (decide (z < 0)) (nv (dz z)) = z:=by
 unfold sg;rw [nv_dg]
 by_cases h:z < 0
 ·rw [if_pos (by simpa using h)];omega
 ·rw [if_neg (by simpa using h)];omega
attribute [local irreducible] Fit pt own ro vw mpc lpt vels rels mow lrc dfr
attribute [local irreducible] lmp lme mit velg relg
theorem FCheck_tr (q:Rat) (vn vd:Value) (hn:vn.oneCell' = true) (hd:vd.oneCell' = true) (hB:FB q 549755813888):Tr Tryz.prog 92 [rv q vn vd] [vw vn (Us (dg q.num.natAbs)),vw vd (Us (dg q.den))] [] fun u D=>u = I 0∧D = []:=by
 have hC:=ICheck_tr (decide (q.num < 0)) vn (dz q.num)
 rw [if_neg (icheck_ok q.num)] at hC
 have hK:=Check_tr vd (dg q.den)
 rw [if_neg (Tm_top (Tm_dg _))] at hK
 have hl:=dg_len_pos q.den_nz
 have hG:=NGcd_tr vn vd (dg q.num.natAbs) (dg q.den) (Dg_dg _) (Dg_dg _) hB.1 hB.2
 rw [nv_dg,nv_dg,show Nat.gcd q.num.natAbs q.den = 1 from q.reduced] at hG
 have hM:=fun v1 v2=>Cmp_tr v1 v2 (dg 1) [1] (Dg_dg _) (Dg.one (by decide))
 rw [nv_dg,show nv [1] = 1 from rfl,show cmpN 1 1 = 0 by decide] at hM
 obtain ⟨b,hb⟩ : ∃ b,b = decide (q.num < 0):=⟨_,rfl⟩
 show Tr _ _ [.agg #[.bool (decide (q.num < 0)),vn,vd]] _ _ _
 rw [← hb] at hC ⊢
 unfold dz at hC
 generalize dg q.num.natAbs = l1 at *
 generalize dg q.den = l2 at *
 clear hB hb
 refine Tr.enter env _ Tryz.func92 (by kernel_rfl) rfl Tryz.ntmps92 rfl (by repeat (first | exact has00 | refine has01 ?_)) fun w0=>?_
 repeat' first|(refine gca ?_;first|(refine ca hC ?_;rintro _ _ ⟨rfl,rfl⟩)|(refine ca hK ?_;rintro _ _ ⟨rfl,rfl⟩)|(refine ca hG ?_;rintro g _ ⟨hg,rfl⟩)|(refine ca one_tr ?_;rintro o _ ⟨ho,rfl⟩)|(refine ca (hM g o) ?_;rintro _ _ ⟨rfl,rfl⟩))|refine bx fun q=>?_|refine lda ?_|(refine wo ?_;first|(refine ao ?_;first|refine oa ?_)|refine oa ?_|refine ld ?_|refine lnm ?_|refine gy ?_|(refine gsi (fun hB=>?_) (fun hB=>?_) <;> try (exfalso;omega)))|(refine gc ?_;first|refine cf ?_)|refine sq ?_|refine rg ?_|refine xc ?_|refine nl ?_|refine sk ?_|refine rt ?_
 exact r1 ⟨rfl,rfl⟩
theorem sumW_tr (v:Value) (hv:v.oneCell' = true):Tr Tryz.prog 120 [v] [] [] fun u D=>u = .agg #[.bool false,v]∧D = []:=by
 refine Tr.enter env _ Tryz.func120 (by kernel_rfl) rfl Tryz.ntmps120 rfl (by repeat (first | exact has00 | refine has01 ?_)) fun w0=>?_
 repeat' first|refine al fun c=>?_|refine bdz ?_|refine srz ?_|(refine wo ?_;first|refine oa ?_)|refine sq ?_|refine rg ?_|refine xc ?_|refine nl ?_|refine rt ?_
 exact rca1 (cs:=[.bool false,v]) (vs:=[.bool false,v]) (T:=TIt) ⟨rfl,rfl⟩
theorem FSum_tr (q r:Rat) (v1 v2 v3 v4:Value) (h1:v1.oneCell' = true) (h2:v2.oneCell' = true) (h3:v3.oneCell' = true) (h4:v4.oneCell' = true) (hq:FB q 8589934592) (hr:FB r 8589934592) :
  Tr Tryz.prog 71 [rv q v1 v2,rv r v3 v4] [vw v1 (Us (dg q.num.natAbs)),vw v2 (Us (dg q.den)),vw v3 (Us (dg r.num.natAbs)),vw v4 (Us (dg r.den))] [] (FQ (q + r)):=by
 have hM1:=IMulF_tr (decide (q.num < 0)) false v1 v4 (dg q.num.natAbs) (dg r.den) (Dg_dg _) (Dg_dg _) (by have:=hq.1;omega) (by have:=hr.2;omega)
 have hM2:=IMulF_tr (decide (r.num < 0)) false v3 v2 (dg r.num.natAbs) (dg q.den) (Dg_dg _) (Dg_dg _) (by have:=hr.1;omega) (by have:=hq.2;omega)
 have hM3:=NMul_tr v2 v4 (dg q.den) (dg r.den) (Dg_dg _) (Dg_dg _) (by have:=hq.2;omega) (by have:=hr.2;omega)
 rw [nv_dg,nv_dg] at hM1 hM2 hM3
 rw [sg_mulN] at hM1 hM2
 have l1:(dz (q.num * r.den)).length ≤ 17179869184:=dz_mul hq.1 (by unfold dz;rw [Int.natAbs_natCast];exact hr.2)
 have l2:(dz (r.num * q.den)).length ≤ 17179869184:=dz_mul hr.1 (by unfold dz;rw [Int.natAbs_natCast];exact hq.2)
 have l3:(dg (q.den * r.den)).length ≤ 17179869184:=dg_mul_len hq.2 hr.2
 have l4:(dz (q.num * r.den + r.num * q.den)).length ≤ 17179869185:=by
  unfold dz at *
  exact Nat.le_trans (dg_mono (Int.natAbs_add_le _ _)) (dg_add_len l1 l2)
 have hA:=fun o1 o2 g1 g2=>IAdd_tr (q.num * r.den) (r.num * q.den) o1 o2 g1 g2 (by omega) (by omega)
 have hL:=fun o d=>lowest_tr (decide (q.num * r.den + r.num * q.den < 0)) o d (dz (q.num * r.den + r.num * q.den)) (dg (q.den * r.den)) (Dg_dg _) (Dg_dg _) (by omega) (by omega) (by rw [nv_dg];exact Nat.mul_ne_zero q.den_nz r.den_nz)
 rw [sg_dz,nv_dg,← Rat.add_def'] at hL
 obtain ⟨s,hs⟩ : ∃ s,s = q + r:=⟨_,rfl⟩
 rw [← hs] at hL ⊢
 clear hs l1 l2 l3 l4 hq hr
 unfold IR at hM1 hM2 hA
 unfold FQ at hL
 show Tr _ _ [.agg #[.bool (decide (q.num < 0)),v1,v2],.agg #[.bool (decide (r.num < 0)),v3,v4]] _ _ _
 generalize q.num * r.den + r.num * q.den = z3 at *
 generalize q.num * r.den = z1 at *
 generalize r.num * q.den = z2 at *
 generalize dg (q.den * r.den) = l3 at *
 generalize dg q.num.natAbs = lq at *
 generalize dg q.den = lqd at *
 generalize dg r.num.natAbs = lr at *
 generalize dg r.den = lrd at *
 generalize decide (q.num < 0) = b1 at *
 generalize decide (r.num < 0) = b2 at *
 refine Tr.enter env _ Tryz.func71 (by kernel_rfl) rfl Tryz.ntmps71 rfl (by repeat (first | exact has00 | refine has01 ?_)) fun w0=>?_
 repeat' first|refine bx fun q=>?_|refine al fun c=>?_|(refine wo ?_;first|refine oa ?_)|refine sq ?_|refine rg ?_|refine xc ?_|refine nl ?_
 rename_i q1
 refine cutY (ι:=Nat × Value) (fun g=>g.2.oneCell' = true) (fun g=>[(2,ptr q1),(3,ptr q),(4,ptr c),(6,ptr g.1)]) (fun g=>[pt q1 [.bool b1,v1,v2] TRt,pt q [.bool b2,v3,v4] TRt,pt c [.bool false,nS,nS] TRt,pt g.1 [.bool (decide (z3 < 0)),g.2] TIt,own T64 g.2 (Us (dz z3)),vw v2 (Us lqd),vw v4 (Us lrd)]) ?_ ?_
 ·rintro ⟨c2,o3⟩ ho3
  dsimp only at ho3 ⊢
  repeat' first|refine sq ?_
  refine rs (fun w=>w.heap[q1]? = some (.cells [.bool b1,v1,v2].toArray TRt (0,0))∧w.heap[q]? = some (.cells [.bool b2,v3,v4].toArray TRt (0,0))∧w.heap[c2]? = some (.cells [.bool (decide (z3 < 0)),o3].toArray TIt (0,0))) ?_ (fun w hw=>⟨pt_at memA hw,pt_at memA hw,pt_at memA hw⟩)
  refine tk 0 (v:=.agg #[.bool (decide (z3 < 0)),o3]) (fun w h=>R_loadA (E:=env) (vs:=[.bool (decide (z3 < 0)),o3]) rfl rfl rfl rfl h.2.2 rfl rfl) ?_
  refine tka 1 ?_
  refine tkl 2 (cs:=[.bool b1,v1,v2]) (fun w h=>h.1) ?_
  refine tka 3 ?_
  refine tkl 4 (cs:=[.bool b2,v3,v4]) (fun w h=>h.2.1) ?_
  refine t1 5 ?_
  refine ca hM3 ?_
  rintro d3 _ ⟨hd3,rfl⟩
  refine nl ?_
  refine te (fun w hw=>⟨pt_at memA hw,pt_at memA hw,pt_at memA hw⟩) ?_
  refine t1 6 ?_
  refine ca (hL o3 d3) ?_
  rintro _ _ ⟨vn,vd,rfl,hvn,hvd,rfl⟩
  refine nl ?_
  refine te (fun w hw=>⟨pt_at memA hw,pt_at memA hw,pt_at memA hw⟩) ?_
  refine t1 7 ?_
  refine srz ?_
  refine nl ?_
  refine te (fun w hw=>⟨pt_at memA hw,pt_at memA hw,pt_at memA hw⟩) ?_
  refine t0 ?_
  repeat' first|refine xc ?_|refine rt ?_
  exact rca1 (cs:=[.bool (decide (s.num < 0)),vn,vd]) (vs:=[.bool (decide (s.num < 0)),vn,vd]) (T:=TRt) ⟨vn,vd,rfl,hvn,hvd,rfl⟩
 ·intro b' kb
  refine rs (fun w=>w.heap[q1]? = some (.cells [.bool b1,v1,v2].toArray TRt (0,0))∧w.heap[q]? = some (.cells [.bool b2,v3,v4].toArray TRt (0,0))) ?_ (fun w hw=>⟨pt_at memA hw,pt_at memA hw⟩)
  refine tka 0 ?_
  refine tk 1 (v:=.agg #[.bool b1,v1]) (fun w h=>R_loadA (E:=env) (vs:=[.bool b1,v1]) rfl rfl rfl rfl h.1 rfl rfl) ?_
  refine tka 2 ?_
  refine tka 3 ?_
  refine tkl 4 (cs:=[.bool b2,v3,v4]) (fun w h=>h.2) ?_
  refine tka 7 ?_
  refine tk 8 (v:=.agg #[.bool b2,v3]) (fun w h=>R_loadA (E:=env) (vs:=[.bool b2,v3]) rfl rfl rfl rfl h.2 rfl rfl) ?_
  refine tka 9 ?_
  refine tka 10 ?_
  refine tkl 11 (cs:=[.bool b1,v1,v2]) (fun w h=>h.1) ?_
  refine t2 5 15 ?_ ?_
  ·refine cav (cap:=#[]) (vs:=[v4]) (sumW_tr v4 h4) ?_
   rintro _ _ ⟨rfl,rfl⟩
   refine nl ?_
   refine te (fun w hw=>⟨pt_at memA hw,pt_at memA hw⟩) ?_
   refine t2 6 15 ?_ ?_
   ·refine ca hM1 ?_
    rintro _ _ ⟨o1,rfl,ho1,rfl⟩
    refine nl ?_
    refine te (fun w hw=>⟨pt_at memA hw,pt_at memA hw⟩) ?_
    refine t2 12 15 ?_ ?_
    ·refine cav (cap:=#[]) (vs:=[v2]) (sumW_tr v2 h2) ?_
     rintro _ _ ⟨rfl,rfl⟩
     refine nl ?_
     refine te (fun w hw=>⟨pt_at memA hw,pt_at memA hw⟩) ?_
     refine t2 13 15 ?_ ?_
     ·refine ca hM2 ?_
      rintro _ _ ⟨o2,rfl,ho2,rfl⟩
      refine nl ?_
      refine te (fun w hw=>⟨pt_at memA hw,pt_at memA hw⟩) ?_
      refine t2 14 15 ?_ ?_
      ·refine ca (hA o1 o2 ho1 ho2) ?_
       rintro _ _ ⟨o3,rfl,ho3,rfl⟩
       refine nl ?_
       refine te (fun w hw=>⟨pt_at memA hw,pt_at memA hw⟩) ?_
       refine t1 15 ?_
       refine al fun c2=>?_
       refine nl ?_
       refine te (fun w hw=>⟨pt_at memA hw,pt_at memA hw⟩) ?_
       refine t1 16 ?_
       refine srz ?_
       refine nl ?_
       refine te (fun w hw=>⟨pt_at memA hw,pt_at memA hw⟩) ?_
       refine t0 ?_
       repeat' first|refine xc ?_
       exact kb (c2,o3) ho3 _ _ (by (repeat (refine Sub.cons rfl (by first | rfl | go_num) ?_));exact Sub.nil) fitA
      ·refine al fun c2=>?_
       refine nl ?_
       refine te (fun w hw=>⟨pt_at memA hw,pt_at memA hw⟩) ?_
       refine t1 14 ?_
       refine ca (hA o1 o2 ho1 ho2) ?_
       rintro _ _ ⟨o3,rfl,ho3,rfl⟩
       refine nl ?_
       refine te (fun w hw=>⟨pt_at memA hw,pt_at memA hw⟩) ?_
       refine t1 16 ?_
       refine srz ?_
       refine nl ?_
       refine te (fun w hw=>⟨pt_at memA hw,pt_at memA hw⟩) ?_
       refine t0 ?_
       repeat' first|refine xc ?_
       exact kb (c2,o3) ho3 _ _ (by (repeat (refine Sub.cons rfl (by first | rfl | go_num) ?_));exact Sub.nil) fitA
     ·refine al fun c2=>?_
      refine nl ?_
      refine te (fun w hw=>⟨pt_at memA hw,pt_at memA hw⟩) ?_
      refine t1 13 ?_
      refine ca hM2 ?_
      rintro _ _ ⟨o2,rfl,ho2,rfl⟩
      refine nl ?_
      refine te (fun w hw=>⟨pt_at memA hw,pt_at memA hw⟩) ?_
      refine t1 14 ?_
      refine ca (hA o1 o2 ho1 ho2) ?_
      rintro _ _ ⟨o3,rfl,ho3,rfl⟩
      refine nl ?_
      refine te (fun w hw=>⟨pt_at memA hw,pt_at memA hw⟩) ?_
      refine t1 16 ?_
      refine srz ?_
      refine nl ?_
      refine te (fun w hw=>⟨pt_at memA hw,pt_at memA hw⟩) ?_
      refine t0 ?_
      repeat' first|refine xc ?_
      exact kb (c2,o3) ho3 _ _ (by (repeat (refine Sub.cons rfl (by first | rfl | go_num) ?_));exact Sub.nil) fitA
    ·refine al fun c2=>?_
     refine nl ?_
     refine te (fun w hw=>⟨pt_at memA hw,pt_at memA hw⟩) ?_
     refine t1 12 ?_
     refine cav (cap:=#[]) (vs:=[v2]) (sumW_tr v2 h2) ?_
     rintro _ _ ⟨rfl,rfl⟩
     refine nl ?_
     refine te (fun w hw=>⟨pt_at memA hw,pt_at memA hw⟩) ?_
     refine t1 13 ?_
     refine ca hM2 ?_
     rintro _ _ ⟨o2,rfl,ho2,rfl⟩
     refine nl ?_
     refine te (fun w hw=>⟨pt_at memA hw,pt_at memA hw⟩) ?_
     refine t1 14 ?_
     refine ca (hA o1 o2 ho1 ho2) ?_
     rintro _ _ ⟨o3,rfl,ho3,rfl⟩
     refine nl ?_
     refine te (fun w hw=>⟨pt_at memA hw,pt_at memA hw⟩) ?_
     refine t1 16 ?_
     refine srz ?_
     refine nl ?_
     refine te (fun w hw=>⟨pt_at memA hw,pt_at memA hw⟩) ?_
     refine t0 ?_
     repeat' first|refine xc ?_
     exact kb (c2,o3) ho3 _ _ (by (repeat (refine Sub.cons rfl (by first | rfl | go_num) ?_));exact Sub.nil) fitA
   ·refine al fun c2=>?_
    refine nl ?_
    refine te (fun w hw=>⟨pt_at memA hw,pt_at memA hw⟩) ?_
    refine t1 6 ?_
    refine ca hM1 ?_
    rintro _ _ ⟨o1,rfl,ho1,rfl⟩
    refine nl ?_
    refine te (fun w hw=>⟨pt_at memA hw,pt_at memA hw⟩) ?_
    refine t1 12 ?_
    refine cav (cap:=#[]) (vs:=[v2]) (sumW_tr v2 h2) ?_
    rintro _ _ ⟨rfl,rfl⟩
    refine nl ?_
    refine te (fun w hw=>⟨pt_at memA hw,pt_at memA hw⟩) ?_
    refine t1 13 ?_
    refine ca hM2 ?_
    rintro _ _ ⟨o2,rfl,ho2,rfl⟩
    refine nl ?_
    refine te (fun w hw=>⟨pt_at memA hw,pt_at memA hw⟩) ?_
    refine t1 14 ?_
    refine ca (hA o1 o2 ho1 ho2) ?_
    rintro _ _ ⟨o3,rfl,ho3,rfl⟩
    refine nl ?_
    refine te (fun w hw=>⟨pt_at memA hw,pt_at memA hw⟩) ?_
    refine t1 16 ?_
    refine srz ?_
    refine nl ?_
    refine te (fun w hw=>⟨pt_at memA hw,pt_at memA hw⟩) ?_
    refine t0 ?_
    repeat' first|refine xc ?_
    exact kb (c2,o3) ho3 _ _ (by (repeat (refine Sub.cons rfl (by first | rfl | go_num) ?_));exact Sub.nil) fitA
  ·refine al fun c2=>?_
   refine nl ?_
   refine te (fun w hw=>⟨pt_at memA hw,pt_at memA hw⟩) ?_
   refine t1 5 ?_
   refine cav (cap:=#[]) (vs:=[v4]) (sumW_tr v4 h4) ?_
   rintro _ _ ⟨rfl,rfl⟩
   refine nl ?_
   refine te (fun w hw=>⟨pt_at memA hw,pt_at memA hw⟩) ?_
   refine t1 6 ?_
   refine ca hM1 ?_
   rintro _ _ ⟨o1,rfl,ho1,rfl⟩
   refine nl ?_
   refine te (fun w hw=>⟨pt_at memA hw,pt_at memA hw⟩) ?_
   refine t1 12 ?_
   refine cav (cap:=#[]) (vs:=[v2]) (sumW_tr v2 h2) ?_
   rintro _ _ ⟨rfl,rfl⟩
   refine nl ?_
   refine te (fun w hw=>⟨pt_at memA hw,pt_at memA hw⟩) ?_
   refine t1 13 ?_
   refine ca hM2 ?_
   rintro _ _ ⟨o2,rfl,ho2,rfl⟩
   refine nl ?_
   refine te (fun w hw=>⟨pt_at memA hw,pt_at memA hw⟩) ?_
   refine t1 14 ?_
   refine ca (hA o1 o2 ho1 ho2) ?_
   rintro _ _ ⟨o3,rfl,ho3,rfl⟩
   refine nl ?_
   refine te (fun w hw=>⟨pt_at memA hw,pt_at memA hw⟩) ?_
   refine t1 16 ?_
   refine srz ?_
   refine nl ?_
   refine te (fun w hw=>⟨pt_at memA hw,pt_at memA hw⟩) ?_
   refine t0 ?_
   repeat' first|refine xc ?_
   exact kb (c2,o3) ho3 _ _ (by (repeat (refine Sub.cons rfl (by first | rfl | go_num) ?_));exact Sub.nil) fitA
end Go.Art
