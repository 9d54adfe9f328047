/- Texts put together: Ya Yb Yc Yd Ye Yf Yg Yi Yk Vm As Vh Rc Vo Yj Vr Yl Ym Yn Yo Yp Yq Yr Ys Yt. Conditions: none. -/
import Derived.Test.YtpabbhpgikdhfaaGreatWTe
set_option linter.unusedSimpArgs false
set_option linter.unusedVariables false
namespace Go.Art
open Go Go.Proofs Go.RowKit
/-! Sums of fractions. -/
def sR {α:Type} (f:α→Rat):List α→Rat
 | []=>0
 | a :: l=>f a + sR f l
section
variable {α β:Type}
theorem sR_app (f:α→Rat):∀ l m:List α,sR f (l ++ m) = sR f l + sR f m
 | [],m=>by simp [sR,Rat.zero_add]
 | a :: l,m=>by simp only [List.cons_append,sR,sR_app f l m,Rat.add_assoc]
theorem sR_congr {f g:α→Rat}:∀ {l:List α},(∀ x ∈ l,f x = g x)→sR f l = sR g l
 | [],_=>rfl
 | a :: l,h=>by simp only [sR];rw [h a (by simp),sR_congr fun x hx=>h x (by simp [hx])]
theorem sR_add (f g:α→Rat):∀ l:List α,sR (fun x=>f x + g x) l = sR f l + sR g l
 | []=>by simp only [sR];grind
 | a :: l=>by simp only [sR,sR_add f g l];grind
theorem sR_mul (c:Rat) (f:α→Rat):∀ l:List α,sR (fun x=>c * f x) l = c * sR f l
 | []=>by simp only [sR];grind
 | a :: l=>by simp only [sR,sR_mul c f l];grind
theorem sR_zero:∀ l:List α,sR (fun _=>0) l = 0
 | []=>rfl
 | a :: l=>by simp only [sR,sR_zero l];grind
theorem sR_const (c:Rat):∀ l:List α,sR (fun _=>c) l = (l.length:Rat) * c
 | []=>by simp [sR,Rat.zero_mul]
 | a :: l=>by simp only [sR,sR_const c l,List.length_cons];push_cast;grind
theorem sR_comm (f:α→β→Rat) (m:List β):∀ l:List α,sR (fun x=>sR (f x) m) l = sR (fun y=>sR (fun x=>f x y) l) m
 | []=>by simp only [sR,sR_zero]
 | a :: l=>by simp only [sR];rw [sR_comm f m l,sR_add]
theorem sR_filter (f:α→Rat) (p:α→Bool):∀ l:List α,sR f l = sR f (l.filter p) + sR f (l.filter fun x=>!p x)
 | []=>by simp only [sR,List.filter_nil];grind
 | a :: l=>by
  have:=sR_filter f p l
  simp only [sR,List.filter_cons]
  cases p a <;> simp [sR] <;> grind
theorem sR_map (f:β→Rat) (g:α→β):∀ l:List α,sR f (l.map g) = sR (fun x=>f (g x)) l
 | []=>rfl
 | a :: l=>by simp only [List.map_cons,sR,sR_map f g l]
/-! Binomial sums. -/
def bsum:Nat→(Nat→Rat)→Rat
 | 0,f=>f 0
 | c + 1,f=>bsum c f + bsum c fun a=>f (a + 1)
theorem bsum_congr:∀ {c:Nat} {f g:Nat→Rat},(∀ a,a ≤ c→f a = g a)→bsum c f = bsum c g
 | 0,_,_,h=>h 0 (Nat.le_refl _)
 | c + 1,f,g,h=>by simp only [bsum];rw [bsum_congr fun a ha=>h a (by omega),bsum_congr (f:=fun a=>f (a + 1)) fun a ha=>h (a + 1) (by omega)]
theorem bsum_mul (k:Rat):∀ (c:Nat) (f:Nat→Rat),bsum c (fun a=>k * f a) = k * bsum c f
 | 0,f=>rfl
 | c + 1,f=>by simp only [bsum];rw [bsum_mul k c f,bsum_mul k c fun a=>f (a + 1)];grind
theorem bsum_add:∀ (c:Nat) (f g:Nat→Rat),bsum c (fun a=>f a + g a) = bsum c f + bsum c g
 | 0,f,g=>rfl
 | c + 1,f,g=>by simp only [bsum];rw [bsum_add c f g,bsum_add c (fun a=>f (a + 1)) fun a=>g (a + 1)];grind
theorem bsum_zero:∀ c,bsum c (fun _=>0) = 0
 | 0=>rfl
 | c + 1=>by simp only [bsum];rw [bsum_zero c];grind
theorem bsum_sR (f:α→Nat→Rat) (c:Nat):∀ l:List α,sR (fun x=>bsum c (f x)) l = bsum c fun a=>sR (fun x=>f x a) l
 | []=>by simp only [sR,bsum_zero]
 | a :: l=>by simp only [sR];rw [bsum_sR f c l,bsum_add]
theorem bsum_comm:∀ (c d:Nat) (f:Nat→Nat→Rat),bsum c (fun a=>bsum d (f a)) = bsum d fun b=>bsum c fun a=>f a b
 | 0,d,f=>rfl
 | c + 1,d,f=>by simp only [bsum];rw [bsum_comm c d f,bsum_comm c d fun a=>f (a + 1),bsum_add]
theorem bsum_pow (x y:Rat):∀ c,bsum c (fun a=>x ^ a * y ^ (c - a)) = (x + y) ^ c
 | 0=>by simp [bsum,Rat.pow_zero,Rat.mul_one]
 | c + 1=>by
  simp only [bsum]
  rw [bsum_congr (g:=fun a=>y * (x ^ a * y ^ (c - a))) fun a ha=>by rw [show c + 1 - a = c - a + 1 by omega,Rat.pow_succ];grind]
  rw [bsum_congr (f:=fun a=>x ^ (a + 1) * y ^ (c + 1 - (a + 1))) (g:=fun a=>x * (x ^ a * y ^ (c - a))) fun a ha=>by rw [Nat.add_sub_add_right,Rat.pow_succ];grind]
  rw [bsum_mul,bsum_mul,bsum_pow x y c,Rat.pow_succ];grind
/-! The mass of tuples. -/
def tG (L:List (β × Rat)):Nat→(List β→Rat)→Rat
 | 0,F=>F []
 | n + 1,F=>sR (fun s=>s.2 * tG L n fun l=>F (s.1 :: l)) L
theorem tG_congr {L:List (β × Rat)}:∀ {n:Nat} {F G:List β→Rat},(∀ l,l.length = n→(∀ x ∈ l,∃ w,(x,w) ∈ L)→F l = G l)→tG L n F = tG L n G
 | 0,F,G,h=>h [] rfl (by simp)
 | n + 1,F,G,h=>sR_congr fun s hs=>by
  rw [tG_congr (F:=fun l=>F (s.1 :: l)) (G:=fun l=>G (s.1 :: l)) fun l hl hx=>h _ (by simp [hl]) fun x hm=>by
   rcases List.mem_cons.1 hm with rfl | hm
   ·exact ⟨s.2,hs⟩
   ·exact hx x hm]
theorem tG_mul (L:List (β × Rat)) (c:Rat):∀ (n:Nat) (F:List β→Rat),tG L n (fun l=>c * F l) = c * tG L n F
 | 0,F=>rfl
 | n + 1,F=>by
  simp only [tG]
  rw [← sR_mul]
  exact sR_congr fun s _=>by rw [tG_mul L c n fun l=>F (s.1 :: l)];grind
theorem tG_add (L:List (β × Rat)):∀ (n:Nat) (F G:List β→Rat),tG L n (fun l=>F l + G l) = tG L n F + tG L n G
 | 0,F,G=>rfl
 | n + 1,F,G=>by
  simp only [tG]
  rw [← sR_add]
  exact sR_congr fun s _=>by rw [tG_add L n (fun l=>F (s.1 :: l)) fun l=>G (s.1 :: l)];grind
theorem tG_zero (L:List (β × Rat)):∀ n,tG L n (fun _=>0) = 0
 | 0=>rfl
 | n + 1=>by
  simp only [tG,tG_zero L n]
  rw [sR_congr (g:=fun _=>0) fun s _=>by grind,sR_zero]
theorem tG_sR (L:List (β × Rat)) (n:Nat) (F:α→List β→Rat):∀ M:List α,tG L n (fun l=>sR (fun s=>F s l) M) = sR (fun s=>tG L n (F s)) M
 | []=>by simp only [sR];exact tG_zero L n
 | a :: M=>by simp only [sR];rw [tG_add,tG_sR L n F M]
theorem tG_bsum (L:List (β × Rat)) (n:Nat):∀ (c:Nat) (F:Nat→List β→Rat),tG L n (fun l=>bsum c fun a=>F a l) = bsum c fun a=>tG L n (F a)
 | 0,F=>rfl
 | c + 1,F=>by simp only [bsum];rw [tG_add,tG_bsum L n c F,tG_bsum L n c fun a=>F (a + 1)]
theorem tG_const (L:List (β × Rat)) (c:Rat):∀ n,tG L n (fun _=>c) = (sR (·.2) L) ^ n * c
 | 0=>by simp [tG,Rat.pow_zero,Rat.one_mul]
 | n + 1=>by
  simp only [tG,tG_const L c n]
  rw [sR_congr (g:=fun s=>(sR (·.2) L ^ n * c) * s.2) fun s _=>by grind,sR_mul,Rat.pow_succ]
  grind
theorem tG_null {L:List (β × Rat)} {p:β→Bool}:∀ {n:Nat} {G:List β→Rat} (_:∀ l m,l.Perm m→G l = G m) (_:∀ s ∈ L,p s.1 = true→∀ l,G (s.1 :: l) = G l),
  tG L n G = bsum n fun b=>sR (·.2) (L.filter fun s=>p s.1) ^ b * tG (L.filter fun s=>!p s.1) (n - b) G
 | 0,G,_,_=>by simp [tG,bsum,Rat.pow_zero,Rat.one_mul]
 | n + 1,G,h1,h2=>by
  have ih:=fun (x:β)=>tG_null (L:=L) (p:=p) (n:=n) (G:=fun l=>G (x :: l)) (fun l m h=>h1 _ _ (h.cons x)) (fun s hs hp l=>by rw [h1 _ _ (List.Perm.swap s.1 x l),h2 s hs hp])
  have ih0:=tG_null (L:=L) (p:=p) (n:=n) h1 h2
  simp only [tG,bsum]
  rw [sR_filter _ fun s=>p s.1]
  have e1:sR (fun s=>s.2 * tG L n fun l=>G (s.1 :: l)) (L.filter fun s=>p s.1) = sR (·.2) (L.filter fun s=>p s.1) * tG L n G:=by
   rw [sR_congr (g:=fun s=>tG L n G * s.2) fun s hs=>?_,sR_mul,Rat.mul_comm]
   have hs:=List.mem_filter.1 hs
   rw [tG_congr fun l _ _=>h2 s hs.1 hs.2 l];grind
  have e2:sR (fun s=>s.2 * tG L n fun l=>G (s.1 :: l)) (L.filter fun s=>!p s.1) = bsum n fun b=>sR (·.2) (L.filter fun s=>p s.1) ^ b * tG (L.filter fun s=>!p s.1) (n + 1 - b) G:=by
   rw [sR_congr fun s _=>by rw [ih s.1,← bsum_mul],bsum_sR]
   refine bsum_congr fun b hb=>?_
   rw [show n + 1 - b = n - b + 1 by omega]
   simp only [tG]
   rw [← sR_mul]
   exact sR_congr fun s _=>by grind
  rw [e1,e2,ih0,← bsum_mul,Rat.add_comm]
  congr 1
  refine bsum_congr fun b hb=>?_
  rw [Rat.pow_succ,Nat.add_sub_add_right];grind
theorem tG_conv {L M:List (β × Rat)} {p:β→Bool} {φ:β→β} {P:Rat} (hM:∀ g:β→Rat,sR (fun s=>s.2 * g (φ s.1)) (L.filter fun s=>p s.1) = P * sR (fun t=>t.2 * g t.1) M) :
  ∀ {c m:Nat} {G:List β→Rat} (_:∀ l m,l.Perm m→G l = G m) (_:∀ s ∈ L,p s.1 = true→∀ l,G (s.1 :: l) = G (φ s.1 :: l)),
  tG L c (fun x=>tG M m fun y=>G (y ++ x)) = bsum c fun a=>P ^ a * tG (L.filter fun s=>!p s.1) (c - a) fun x=>tG M (m + a) fun y=>G (y ++ x)
 | 0,m,G,_,_=>by simp [tG,bsum,Rat.pow_zero,Rat.one_mul]
 | c + 1,m,G,h1,h2=>by
  have ih:=fun (x:β)=>tG_conv hM (c:=c) (m:=m) (G:=fun l=>G (x :: l)) (fun l m h=>h1 _ _ (h.cons x)) (fun s hs hp l=>by rw [h1 _ _ (List.Perm.swap s.1 x l),h2 s hs hp,h1 _ _ (List.Perm.swap x (φ s.1) l)])
  have ih0:=tG_conv hM (c:=c) (m:=m + 1) h1 h2
  have em:∀ (s:β) (x y:List β),G (y ++ s :: x) = G (s :: (y ++ x)):=fun s x y=>h1 _ _ List.perm_middle
  simp only [bsum]
  have e0:tG L (c + 1) (fun x=>tG M m fun y=>G (y ++ x)) = sR (fun s=>s.2 * tG L c fun x=>tG M m fun y=>G (s.1 :: (y ++ x))) L:=by
   simp only [tG,em]
  have e1:sR (fun s=>s.2 * tG L c fun x=>tG M m fun y=>G (s.1 :: (y ++ x))) (L.filter fun s=>p s.1) = P * tG L c fun x=>tG M (m + 1) fun y=>G (y ++ x):=by
   have k1:sR (fun s=>s.2 * tG L c fun x=>tG M m fun y=>G (s.1 :: (y ++ x))) (L.filter fun s=>p s.1) = sR (fun s=>s.2 * (fun t=>tG L c fun x=>tG M m fun y=>G (t :: (y ++ x))) (φ s.1)) (L.filter fun s=>p s.1):=sR_congr fun s hs=>by
    have hs:=List.mem_filter.1 hs
    simp only [h2 s hs.1 hs.2]
   rw [k1,hM fun t=>tG L c fun x=>tG M m fun y=>G (t :: (y ++ x))]
   congr 1
   have k2:(fun x=>tG M (m + 1) fun y=>G (y ++ x)) = fun x=>sR (fun t=>(fun x=>t.2 * tG M m fun y=>G (t.1 :: (y ++ x))) x) M:=funext fun x=>by simp only [tG,List.cons_append]
   rw [k2,tG_sR]
   exact sR_congr fun t _=>by rw [tG_mul]
  have e2:sR (fun s=>s.2 * tG L c fun x=>tG M m fun y=>G (s.1 :: (y ++ x))) (L.filter fun s=>!p s.1) = bsum c fun a=>P ^ a * tG (L.filter fun s=>!p s.1) (c + 1 - a) fun x=>tG M (m + a) fun y=>G (y ++ x):=by
   rw [sR_congr fun s _=>by rw [ih s.1,← bsum_mul],bsum_sR]
   refine bsum_congr fun a ha=>?_
   rw [show c + 1 - a = c - a + 1 by omega]
   simp only [tG,em]
   rw [← sR_mul]
   exact sR_congr fun s _=>by grind
  rw [e0,sR_filter _ fun s=>p s.1,e1,e2,ih0,← bsum_mul,Rat.add_comm]
  congr 1
  refine bsum_congr fun a ha=>?_
  rw [Rat.pow_succ,Nat.add_sub_add_right,show m + 1 + a = m + (a + 1) by omega];grind
end
end Go.Art
namespace Go.Art
open Go Go.Proofs Go.RowKit
/-! What is stuck in the end, set by set. -/
def cU (U l:List Int):Nat:=(l.filter fun x=>U.contains x).length
structure Core (k:Nat) (X:List (List Int)) (φ:Nat→Rat) (F:List Int→List (List Int)→Rat):Prop where
 perm:∀ U l m,l.Perm m→F U l = F U m
 none:∀ U l ls,cU U l = 0→F U (l :: ls) = F U ls
 one:∀ U l ls s,(l ∈ X∨l = [s])→s ∈ U→U.Nodup→(∀ x,x ∈ l∧x ∈ U ↔ x = s)→F U (l :: ls) = F (U.erase s) ls
 stuck:∀ U ls,U.Nodup→U.length ≤ k→(∀ l ∈ ls,l ∈ X∧2 ≤ cU U l)→F U ls = φ U.length
def clo (X:List (List Int × Rat)) (U:List Int):List (List Int × Rat):=X.filter fun s=>decide (2 ≤ cU U s.1)
def sym (U:List Int):List (List Int × Rat):=U.map fun t=>([t],1)
structure Even (k:Nat) (X:List (List Int × Rat)) (Q P:Nat→Rat):Prop where
 nd:∀ s ∈ X,s.1.Nodup
 cloud:∀ U:List Int,U.Pairwise (· < ·)→(∀ x ∈ U,0 ≤ x∧x < k)→sR (·.2) (clo X U) = Q U.length
 two:∀ U:List Int,U.Pairwise (· < ·)→(∀ x ∈ U,0 ≤ x∧x < k)→∀ s ∈ U,∀ g:List Int→Rat,sR (fun S=>S.2 * g (S.1.filter fun x=>(U.erase s).contains x)) (X.filter fun S=>decide (cU U S.1 = 2) && S.1.contains s) = P U.length * sR (fun t=>g [t]) (U.erase s)
def vB (φ:Nat→Rat) (f:Nat→Rat):Nat→Nat→Nat→Rat
 | 0,_,_=>φ 0
 | u + 1,_,0=>φ (u + 1)
 | u + 1,c,r + 1=>bsum c fun a=>bsum r fun b=>(f (u + 1) ^ a * (1 - f (u + 1)) ^ (c - a)) * ((1 / ((u + 1:Nat):Rat)) ^ b * (1 - 1 / ((u + 1:Nat):Rat)) ^ (r - b)) * vB φ f u (c - a) (r - b + a)
theorem sorted_nd {U:List Int} (h:U.Pairwise (· < ·)):U.Nodup:=h.imp fun h=>Int.ne_of_lt h
theorem cU_erase {U l:List Int} {s:Int} (hU:U.Nodup) (hs:s ∈ U) (hl:l.Nodup):cU U l = cU (U.erase s) l + if s ∈ l then 1 else 0:=by
 unfold cU
 induction l with
 | nil=>rfl
 | cons x l ih=>
  obtain ⟨h1,h2⟩:=List.nodup_cons.1 hl
  have ih:=ih h2
  have hm:(U.erase s).contains x = (U.contains x && decide (x ≠ s)):=by
   rw [Bool.eq_iff_iff]
   simp [hU.mem_erase_iff,and_comm]
  rw [List.filter_cons,List.filter_cons,hm]
  by_cases e:x = s
  ·subst e
   simp [hs,h1] at ih ⊢
   exact ih
  ·have e2:s ∈ x :: l ↔ s ∈ l:=by simp [Ne.symm e]
   simp only [e2]
   rw [show decide (x ≠ s) = true from decide_eq_true e,Bool.and_true]
   by_cases hc:U.contains x = true
   ·rw [if_pos hc,if_pos hc,List.length_cons,List.length_cons,ih];omega
   ·rw [if_neg hc,if_neg hc,ih]
theorem one_powR:∀ n:Nat,(1:Rat) ^ n = 1
 | 0=>Rat.pow_zero _
 | n + 1=>by rw [Rat.pow_succ,one_powR n,Rat.one_mul]
theorem pow_mulR (a b:Rat):∀ n:Nat,(a * b) ^ n = a ^ n * b ^ n
 | 0=>by simp [Rat.pow_zero]
 | n + 1=>by rw [Rat.pow_succ,Rat.pow_succ,Rat.pow_succ,pow_mulR a b n];grind
theorem pow_addR (a:Rat) (m:Nat):∀ n:Nat,a ^ (m + n) = a ^ m * a ^ n
 | 0=>by simp [Rat.pow_zero,Rat.mul_one]
 | n + 1=>by rw [← Nat.add_assoc,Rat.pow_succ,Rat.pow_succ,pow_addR a m n];grind
theorem sym_erase {U:List Int} (hU:U.Nodup) {s:Int}:(sym U).filter (fun t=>!(decide (t.1 = [s]))) = sym (U.erase s):=by
 unfold sym
 rw [List.filter_map,hU.erase_eq_filter]
 congr 1
 refine List.filter_congr fun x _=>?_
 by_cases e:x = s <;> simp [e]
theorem sym_one {U:List Int} (hU:U.Nodup) {s:Int} (hs:s ∈ U):sR (·.2) ((sym U).filter fun t=>decide (t.1 = [s])) = 1:=by
 unfold sym
 rw [List.filter_map]
 have:U.filter ((fun t:List Int × Rat=>decide (t.1 = [s])) ∘ fun t=>([t],1)) = [s]:=by
  rw [show ((fun t:List Int × Rat=>decide (t.1 = [s])) ∘ fun t=>([t],1)) = fun x=>x == s from funext fun x=>by by_cases e:x = s <;> simp [e]]
  rw [List.filter_beq,hU.count,if_pos hs];rfl
 rw [this]
 simp [sR,Rat.add_zero]
theorem core_rec {k:Nat} {X:List (List Int × Rat)} {φ:Nat→Rat} {F:List Int→List (List Int)→Rat} {Q P f:Nat→Rat} (hF:Core k (X.map (·.1)) φ F) (hE:Even k X Q P)
  (hf1:∀ u,u < k→Q (u + 1) * f (u + 1) = (u:Rat) * P (u + 1)) (hf2:∀ u,u < k→Q (u + 1) * (1 - f (u + 1)) = Q u) :
  ∀ u U c r,U.length = u→u ≤ k→U.Pairwise (· < ·)→(∀ x ∈ U,0 ≤ x∧x < (k:Int))→tG (clo X U) c (fun x=>tG (sym U) r fun y=>F U (y ++ x)) = Q u ^ c * (u:Rat) ^ r * vB φ f u c r:=by
 have hstk:∀ u U c,U.length = u→u ≤ k→U.Pairwise (· < ·)→(∀ x ∈ U,0 ≤ x∧x < (k:Int))→tG (clo X U) c (fun x=>F U x) = Q u ^ c * φ u:=by
  intro u U c hu hk hn hin
  rw [tG_congr (G:=fun _=>φ u) fun l hl hx=>?_,tG_const,hE.cloud U hn hin,hu]
  rw [hF.stuck U l (sorted_nd hn) (by omega) fun s hs=>?_,hu]
  obtain ⟨w,hw⟩:=hx s hs
  have:=List.mem_filter.1 hw
  exact ⟨List.mem_map.2 ⟨_,this.1,rfl⟩,by simpa using this.2⟩
 intro u
 induction u with
 | zero=>
  intro U c r hu hk hn hin
  cases r with
  | zero=>
   simp only [tG,List.nil_append]
   rw [hstk 0 U c hu hk hn hin,vB,Rat.pow_zero,Rat.mul_one]
  | succ r=>
   obtain rfl:U = []:=List.eq_nil_of_length_eq_zero hu
   simp only [tG,sym,List.map_nil,sR]
   rw [tG_zero,Rat.pow_succ,show ((0:Nat):Rat) = 0 from rfl];grind
 | succ u ih=>
  intro U c r hu hk hso hin
  have hn:=sorted_nd hso
  cases r with
  | zero=>
   simp only [tG,List.nil_append]
   rw [hstk (u + 1) U c hu hk hso hin,vB,Rat.pow_zero,Rat.mul_one]
  | succ r=>
   have e1:∀ s ∈ U,tG (clo X U) c (fun x=>tG (sym U) r fun y=>F U ([s] :: (y ++ x))) = bsum r fun b=>bsum c fun a=>P (u + 1) ^ a * (Q u ^ (c - a) * (u:Rat) ^ (r - b + a) * vB φ f u (c - a) (r - b + a)):=by
    intro s hs
    have hn':(U.erase s).Nodup:=hn.erase s
    have hl':(U.erase s).length = u:=by rw [List.length_erase_of_mem hs,hu];rfl
    have hin':∀ x ∈ U.erase s,0 ≤ x∧x < (k:Int):=fun x hx=>hin x (List.mem_of_mem_erase hx)
    have hns:∀ x,x ∈ U.erase s→x ≠ s:=fun x hx=>(hn.mem_erase_iff.1 hx).1
    have k1:∀ x y:List (List Int),F U ([s] :: (y ++ x)) = F (U.erase s) (y ++ x):=fun x y=>hF.one U [s] _ s (.inr rfl) hs hn fun z=>by
     constructor
     ·rintro ⟨h,_⟩;simpa using h
     ·rintro rfl;simp [hs]
    simp only [k1]
    have k2:∀ x:List (List Int),tG (sym U) r (fun y=>F (U.erase s) (y ++ x)) = bsum r fun b=>tG (sym (U.erase s)) (r - b) fun y=>F (U.erase s) (y ++ x):=fun x=>by
     rw [tG_null (p:=fun t=>decide (t = [s])) (G:=fun y=>F (U.erase s) (y ++ x)) (fun l m h=>hF.perm _ _ _ (h.append_right x)) fun t ht hp l=>?_]
     ·rw [sym_one hn hs,sym_erase hn]
      exact bsum_congr fun b _=>by rw [show (1:Rat) ^ b = 1 from one_powR b,Rat.one_mul]
     ·rw [of_decide_eq_true hp]
      exact hF.none _ _ _ (by unfold cU;simp [hn.mem_erase_iff])
    simp only [k2]
    rw [tG_bsum]
    refine bsum_congr fun b _=>?_
    have hcl:∀ S ∈ X,cU U S.1 = cU (U.erase s) S.1 + if s ∈ S.1 then 1 else 0:=fun S hS=>cU_erase hn hs (hE.nd S hS)
    have k3:(clo X U).filter (fun S=>!(decide (cU U S.1 = 2) && S.1.contains s)) = clo X (U.erase s):=by
     unfold clo
     rw [List.filter_filter]
     refine List.filter_congr fun S hS=>?_
     have h1:=hcl S hS
     rw [Bool.eq_iff_iff]
     simp only [Bool.and_eq_true,Bool.not_eq_true',Bool.and_eq_false_iff,decide_eq_true_eq,decide_eq_false_iff_not]
     by_cases hm:s ∈ S.1
     ·simp only [hm,if_true] at h1
      simp [hm];omega
     ·simp only [hm,if_false] at h1
      simp [hm];omega
    have k4:(clo X U).filter (fun S=>decide (cU U S.1 = 2) && S.1.contains s) = X.filter fun S=>decide (cU U S.1 = 2) && S.1.contains s:=by
     unfold clo
     rw [List.filter_filter]
     refine List.filter_congr fun S hS=>?_
     rw [Bool.eq_iff_iff]
     simp only [Bool.and_eq_true,decide_eq_true_eq]
     constructor
     ·rintro ⟨h1,h2⟩;exact h1
     ·rintro h1;exact ⟨h1,by omega⟩
    rw [tG_conv (L:=clo X U) (M:=sym (U.erase s)) (p:=fun l=>decide (cU U l = 2) && l.contains s) (φ:=fun l=>l.filter fun x=>(U.erase s).contains x) (P:=P (u + 1)) (fun g=>?_) (fun l m h=>hF.perm _ _ _ h) fun S hS hp l=>?_]
    ·rw [k3]
     refine bsum_congr fun a _=>?_
     rw [ih (U.erase s) (c - a) (r - b + a) hl' (by omega) (hso.sublist List.erase_sublist) hin']
    ·rw [k4,hE.two U hso hin s hs g,hu]
     unfold sym
     rw [sR_map]
     simp only [Rat.one_mul]
    ·have hS:=(List.mem_filter.1 hS).1
     have h1:=hcl S hS
     simp only [Bool.and_eq_true,decide_eq_true_eq] at hp
     have hm:s ∈ S.1:=by simpa using hp.2
     rw [if_pos hm,hp.1] at h1
     have h3:(S.1.filter fun x=>(U.erase s).contains x).length = 1:=by unfold cU at h1;omega
     obtain ⟨t,ht⟩:=List.length_eq_one_iff.1 h3
     have hmt:∀ x,x ∈ S.1∧x ∈ U.erase s ↔ x = t:=fun x=>by
      have:x ∈ S.1.filter (fun x=>(U.erase s).contains x) ↔ x = t:=by rw [ht];simp
      rw [← this,List.mem_filter];simp
     have htU:=((hmt t).2 rfl).2
     simp only [ht]
     rw [hF.one _ _ l t (.inl (List.mem_map.2 ⟨S,hS,rfl⟩)) htU hn' hmt,hF.one _ [t] l t (.inr rfl) htU hn' fun z=>?_]
     constructor
     ·rintro ⟨h,_⟩;simpa using h
     ·rintro rfl;simp [htU]
   have e2:tG (clo X U) c (fun x=>tG (sym U) (r + 1) fun y=>F U (y ++ x)) = sR (fun s=>tG (clo X U) c fun x=>tG (sym U) r fun y=>F U ([s] :: (y ++ x))) U:=by
    rw [← tG_sR]
    exact tG_congr fun x _ _=>(sR_map _ _ U).trans (sR_congr fun t _=>Rat.one_mul _)
   rw [e2,sR_congr e1,sR_const,hu]
   simp only [vB]
   rw [bsum_comm,← bsum_mul,← bsum_mul]
   refine bsum_congr fun a ha=>?_
   rw [← bsum_mul,← bsum_mul]
   refine bsum_congr fun b hb=>?_
   have h0:((u + 1:Nat):Rat) ≠ 0:=by
    intro h
    have:((u + 1:Nat):Rat) = ((0:Nat):Rat):=h
    have:=Rat.natCast_inj.1 this
    omega
   have hg1:((u + 1:Nat):Rat) * (1 / ((u + 1:Nat):Rat)) = 1:=by grind
   have hg2:((u + 1:Nat):Rat) * (1 - 1 / ((u + 1:Nat):Rat)) = (u:Rat):=by
    have:((u + 1:Nat):Rat) = (u:Rat) + 1:=by push_cast;rfl
    grind
   have q1:=hf1 u (by omega)
   have q2:=hf2 u (by omega)
   generalize ((u + 1:Nat):Rat) = N at *
   have p1:Q (u + 1) ^ c = Q (u + 1) ^ a * Q (u + 1) ^ (c - a):=by rw [← pow_addR];congr 1;omega
   have p2:N ^ (r + 1) = N * (N ^ b * N ^ (r - b)):=by rw [Rat.pow_succ,← pow_addR,show b + (r - b) = r by omega,Rat.mul_comm]
   have p3:(u:Rat) ^ (r - b + a) = (u:Rat) ^ (r - b) * (u:Rat) ^ a:=pow_addR _ _ _
   have p4:Q (u + 1) ^ a * f (u + 1) ^ a = (u:Rat) ^ a * P (u + 1) ^ a:=by rw [← pow_mulR,← pow_mulR,q1]
   have p5:Q (u + 1) ^ (c - a) * (1 - f (u + 1)) ^ (c - a) = Q u ^ (c - a):=by rw [← pow_mulR,q2]
   have p6:N ^ b * (1 / N) ^ b = 1:=by rw [← pow_mulR,hg1];exact one_powR b
   have p7:N ^ (r - b) * (1 - 1 / N) ^ (r - b) = (u:Rat) ^ (r - b):=by rw [← pow_mulR,hg2]
   rw [p1,p2,p3]
   generalize vB φ f u (c - a) (r - b + a) = V
   generalize f (u + 1) ^ a = fa at *
   generalize (1 - f (u + 1)) ^ (c - a) = fb at *
   generalize (1 / N) ^ b = ga at *
   generalize (1 - 1 / N) ^ (r - b) = gb at *
   generalize N ^ b = Na at *
   generalize N ^ (r - b) = Nb at *
   rw [← p5,← p7]
   have:N * (P (u + 1) ^ a * (Q (u + 1) ^ (c - a) * fb * (Nb * gb * (u:Rat) ^ a) * V)) = N * ((u:Rat) ^ a * P (u + 1) ^ a) * (Q (u + 1) ^ (c - a) * fb) * (Nb * gb) * V:=by grind
   rw [this,← p4]
   have:Q (u + 1) ^ a * Q (u + 1) ^ (c - a) * (N * (Na * Nb)) * (fa * fb * (ga * gb) * V) = N * (Q (u + 1) ^ a * fa) * (Q (u + 1) ^ (c - a) * fb) * (Nb * gb) * V * (Na * ga):=by grind
   rw [this,p6,Rat.mul_one]
open Go Go.Proofs Go.RowKit
/-! The recursion, forward, place by place. -/
def addAt (l:List Rat) (j:Nat) (x:Rat):List Rat:=l.set j (l.getD j 0 + x)
def shar (p:Rat) (m s:Nat):Rat:=(chs m s:Rat) * p ^ s * (1 - p) ^ (m - s)
def inR (n:Nat) (f g y:Rat) (c r:Nat) (l:List Rat):List Rat:=
 (List.range (c + 1)).foldl (fun l a=>if shar f c a = 0 then l else (List.range r).foldl (fun l b=>addAt l ((c - a) * (n + 1) + (r - 1 - b + a)) (y * shar f c a * shar g (r - 1) b)) l) l
def nextR (f g:Rat) (n:Nat) (x:List Rat):List Rat:=
 (List.range ((n + 1) * (n + 1))).foldl (fun l i=>if i % (n + 1) = 0∨x.getD i 0 = 0 then l else inR n f g (x.getD i 0) (i / (n + 1)) (i % (n + 1)) l) (List.replicate ((n + 1) * (n + 1)) 0)
def firstR (p:Rat) (n:Nat):List Rat:=(List.range (n + 1)).foldl (fun l r=>l.set ((n - r) * (n + 1) + r) (shar p n r)) (List.replicate ((n + 1) * (n + 1)) 0)
def dotF (n:Nat) (v:Nat→Nat→Rat) (x:List Rat) (i:Nat):Rat:=x.getD i 0 * v (i / (n + 1)) (i % (n + 1))
def dot (n:Nat) (v:Nat→Nat→Rat) (x:List Rat):Rat:=sR (dotF n v x) (List.range ((n + 1) * (n + 1)))
theorem sR_set {f g:Nat→Rat} {N j:Nat} (hj:j < N) (d:Rat) (h:∀ i,i < N→g i = f i + if i = j then d else 0):sR g (List.range N) = sR f (List.range N) + d:=by
 have key:∀ M,M ≤ N→sR g (List.range M) = sR f (List.range M) + if j < M then d else 0:=by
  intro M
  induction M with
  | zero=>intro _;simp only [List.range_zero,sR,Nat.not_lt_zero,if_false];grind
  | succ M ih=>
   intro hM
   rw [List.range_succ,sR_app,sR_app,ih (by omega)]
   simp only [sR]
   rw [h M (by omega)]
   by_cases e:M = j
   ·subst e;rw [if_pos rfl,if_neg (by omega),if_pos (by omega)];grind
   ·by_cases e2:j < M
    ·rw [if_neg e,if_pos e2,if_pos (by omega)];grind
    ·rw [if_neg e,if_neg e2,if_neg (by omega)];grind
 rw [key N (Nat.le_refl _),if_pos hj]
theorem getD_setR (l:List Rat) (i j:Nat) (x:Rat) (hj:j < l.length):(l.set j x).getD i 0 = if i = j then x else l.getD i 0:=by
 simp only [List.getD_eq_getElem?_getD,List.getElem?_set]
 by_cases e:i = j
 ·subst e;simp [hj]
 ·rw [if_neg (fun h=>e h.symm),if_neg e]
theorem dot_set {n:Nat} {v:Nat→Nat→Rat} {x:List Rat} (hx:x.length = (n + 1) * (n + 1)) {j:Nat} (hj:j < (n + 1) * (n + 1)) (y:Rat):dot n v (x.set j y) = dot n v x + (y - x.getD j 0) * v (j / (n + 1)) (j % (n + 1)):=by
 unfold dot
 refine sR_set hj _ fun i hi=>?_
 unfold dotF
 rw [getD_setR _ _ _ _ (by omega)]
 by_cases e:i = j
 ·subst e;rw [if_pos rfl,if_pos rfl];grind
 ·rw [if_neg e,if_neg e];grind
theorem dot_addAt {n:Nat} {v:Nat→Nat→Rat} {x:List Rat} (hx:x.length = (n + 1) * (n + 1)) {j:Nat} (hj:j < (n + 1) * (n + 1)) (y:Rat):dot n v (addAt x j y) = dot n v x + y * v (j / (n + 1)) (j % (n + 1)):=by
 unfold addAt;rw [dot_set hx hj];grind
theorem addAt_len (l:List Rat) (j:Nat) (x:Rat):(addAt l j x).length = l.length:=by simp [addAt]
theorem getD_repl (N i:Nat):(List.replicate N (0:Rat)).getD i 0 = 0:=by
 rw [List.getD_eq_getElem?_getD,List.getElem?_replicate];split <;> rfl
theorem dot_zero (n N:Nat) (v:Nat→Nat→Rat):dot n v (List.replicate N 0) = 0:=by
 unfold dot
 rw [sR_congr (g:=fun _=>0) fun i _=>?_,sR_zero]
 unfold dotF;rw [getD_repl,Rat.zero_mul]
theorem foldl_dot {α:Type} {n:Nat} {v:Nat→Nat→Rat} {st:List Rat→α→List Rat} {h:α→Rat}:∀ {M:List α} (_:∀ a ∈ M,∀ l:List Rat,l.length = (n + 1) * (n + 1)→(st l a).length = (n + 1) * (n + 1)∧dot n v (st l a) = dot n v l + h a) (l:List Rat),
  l.length = (n + 1) * (n + 1)→(M.foldl st l).length = (n + 1) * (n + 1)∧dot n v (M.foldl st l) = dot n v l + sR h M
 | [],_,l,hl=>⟨hl,by simp only [List.foldl_nil,sR];grind⟩
 | a :: M,H,l,hl=>by
  obtain ⟨h1,h2⟩:=H a (by simp) l hl
  obtain ⟨h3,h4⟩:=foldl_dot (M:=M) (fun b hb=>H b (by simp [hb])) (st l a) h1
  exact ⟨h3,by rw [List.foldl_cons,h4,h2];simp only [sR];grind⟩
theorem sR_shift (f:Nat→Rat) (N:Nat):sR f (List.range (N + 1)) = f 0 + sR (fun a=>f (a + 1)) (List.range N):=by
 rw [List.range_succ_eq_map];simp only [sR];rw [sR_map]
theorem sR_last (f:Nat→Rat) (N:Nat):sR f (List.range (N + 1)) = sR f (List.range N) + f N:=by
 rw [List.range_succ,sR_app];simp only [sR];grind
theorem bsum_chs:∀ (c:Nat) (h:Nat→Rat),sR (fun a=>(chs c a:Rat) * h a) (List.range (c + 1)) = bsum c h
 | 0,h=>by simp only [List.range_succ,List.range_zero,List.nil_append,sR,bsum,chs_zero];push_cast;grind
 | c + 1,h=>by
  have h1:=bsum_chs c h
  have h2:=bsum_chs c fun a=>h (a + 1)
  rw [sR_shift] at h1 ⊢
  simp only [bsum]
  rw [← h1,← h2,sR_congr (f:=fun a=>(chs (c + 1) (a + 1):Rat) * h (a + 1)) (g:=fun a=>(chs c a:Rat) * h (a + 1) + (chs c (a + 1):Rat) * h (a + 1)) fun a _=>by rw [chs_succ];push_cast;grind]
  rw [sR_add,sR_last (fun a=>(chs c (a + 1):Rat) * h (a + 1)),chs_over (n:=c) (k:=c + 1) (by omega),chs_zero,chs_zero]
  simp only [show ((0:Nat):Rat) = 0 from rfl]
  grind
theorem bsum_shar (p:Rat) (c:Nat) (h:Nat→Rat):sR (fun a=>shar p c a * h a) (List.range (c + 1)) = bsum c fun a=>p ^ a * (1 - p) ^ (c - a) * h a:=by
 rw [← bsum_chs]
 exact sR_congr fun a _=>by unfold shar;grind
theorem place_div {n q r:Nat} (h:r < n + 1):(q * (n + 1) + r) / (n + 1) = q∧(q * (n + 1) + r) % (n + 1) = r:=by
 constructor
 ·rw [Nat.mul_comm,Nat.mul_add_div (by omega),Nat.div_eq_of_lt h,Nat.add_zero]
 ·rw [Nat.mul_comm,Nat.mul_add_mod,Nat.mod_eq_of_lt h]
theorem place_lt {n q r:Nat} (hq:q ≤ n) (h:r ≤ n):q * (n + 1) + r < (n + 1) * (n + 1):=by
 have:=Nat.mul_le_mul_right (n + 1) hq
 rw [Nat.add_mul];omega
theorem inR_dot {n c r:Nat} {v:Nat→Nat→Rat} {f g y:Rat} {l:List Rat} (hl:l.length = (n + 1) * (n + 1)) (hcr:c + r ≤ n) (hr:1 ≤ r):(inR n f g y c r l).length = (n + 1) * (n + 1) ∧
  dot n v (inR n f g y c r l) = dot n v l + y * bsum c fun a=>bsum (r - 1) fun b=>(f ^ a * (1 - f) ^ (c - a)) * (g ^ b * (1 - g) ^ (r - 1 - b)) * v (c - a) (r - 1 - b + a):=by
 have hin:∀ a,a ∈ List.range (c + 1)→∀ l:List Rat,l.length = (n + 1) * (n + 1)→((List.range r).foldl (fun l b=>addAt l ((c - a) * (n + 1) + (r - 1 - b + a)) (y * shar f c a * shar g (r - 1) b)) l).length = (n + 1) * (n + 1) ∧
   dot n v ((List.range r).foldl (fun l b=>addAt l ((c - a) * (n + 1) + (r - 1 - b + a)) (y * shar f c a * shar g (r - 1) b)) l) = dot n v l + sR (fun b=>y * shar f c a * shar g (r - 1) b * v (c - a) (r - 1 - b + a)) (List.range r):=by
  intro a ha l hl
  have ha:=List.mem_range.1 ha
  refine foldl_dot (fun b hb l hl=>?_) l hl
  have hb:=List.mem_range.1 hb
  obtain ⟨k1,k2⟩:=place_div (n:=n) (q:=c - a) (r:=r - 1 - b + a) (by omega)
  have:=dot_addAt (v:=v) hl (place_lt (n:=n) (q:=c - a) (r:=r - 1 - b + a) (by omega) (by omega)) (y * shar f c a * shar g (r - 1) b)
  rw [k1,k2] at this
  exact ⟨by rw [addAt_len,hl],this⟩
 unfold inR
 obtain ⟨h1,h2⟩:=foldl_dot (n:=n) (v:=v) (h:=fun a=>sR (fun b=>y * shar f c a * shar g (r - 1) b * v (c - a) (r - 1 - b + a)) (List.range r)) (M:=List.range (c + 1)) (st:=fun l a=>if shar f c a = 0 then l else (List.range r).foldl (fun l b=>addAt l ((c - a) * (n + 1) + (r - 1 - b + a)) (y * shar f c a * shar g (r - 1) b)) l) (fun a ha l hl=>by
  by_cases e:shar f c a = 0
  ·rw [if_pos e]
   refine ⟨hl,?_⟩
   rw [sR_congr (g:=fun _=>0) fun b _=>by rw [e];grind,sR_zero];grind
  ·rw [if_neg e];exact hin a ha l hl) l hl
 refine ⟨h1,?_⟩
 rw [h2]
 congr 1
 rw [← bsum_mul]
 have e1:=bsum_shar f c fun a=>y * bsum (r - 1) fun b=>g ^ b * (1 - g) ^ (r - 1 - b) * v (c - a) (r - 1 - b + a)
 rw [bsum_congr (g:=fun a=>f ^ a * (1 - f) ^ (c - a) * (y * bsum (r - 1) fun b=>g ^ b * (1 - g) ^ (r - 1 - b) * v (c - a) (r - 1 - b + a))) fun a _=>by
  rw [← bsum_mul,← bsum_mul,← bsum_mul]
  exact bsum_congr fun b _=>by grind]
 rw [← e1]
 refine sR_congr fun a _=>?_
 rw [← bsum_mul,← bsum_mul]
 have e2:=bsum_shar g (r - 1) fun b=>shar f c a * (y * v (c - a) (r - 1 - b + a))
 rw [show r - 1 + 1 = r by omega] at e2
 rw [bsum_congr (g:=fun b=>g ^ b * (1 - g) ^ (r - 1 - b) * (shar f c a * (y * v (c - a) (r - 1 - b + a)))) fun b _=>by grind,← e2]
 exact sR_congr fun b _=>by grind
open Go Go.Proofs Go.RowKit
structure Supp (n:Nat) (l:List Rat):Prop where
 len:l.length = (n + 1) * (n + 1)
 z:∀ i,i < (n + 1) * (n + 1)→n < i / (n + 1) + i % (n + 1)→l.getD i 0 = 0
theorem supp_zero (n:Nat):Supp n (List.replicate ((n + 1) * (n + 1)) 0):=⟨by simp,fun i _ _=>getD_repl _ i⟩
theorem supp_set {n q r:Nat} {l:List Rat} (h:Supp n l) (hq:q + r ≤ n) (y:Rat):Supp n (l.set (q * (n + 1) + r) y):=by
 refine ⟨by rw [List.length_set,h.len],fun i hi hn=>?_⟩
 rw [getD_setR _ _ _ _ (by rw [h.len];exact place_lt (by omega) (by omega))]
 by_cases e:i = q * (n + 1) + r
 ·obtain ⟨k1,k2⟩:=place_div (n:=n) (q:=q) (r:=r) (by omega)
  rw [e,k1,k2] at hn;omega
 ·rw [if_neg e];exact h.z i hi hn
theorem foldl_inv {α β:Type} (p:β→Prop) {st:β→α→β}:∀ {M:List α} {l:β},(∀ a ∈ M,∀ l,p l→p (st l a))→p l→p (M.foldl st l)
 | [],_,_,h=>h
 | a :: M,l,H,h=>foldl_inv p (M:=M) (fun b hb=>H b (by simp [hb])) (H a (by simp) l h)
theorem supp_in {n c r:Nat} {f g y:Rat} {l:List Rat} (h:Supp n l) (hcr:c + r ≤ n) (hr:1 ≤ r):Supp n (inR n f g y c r l):=by
 unfold inR
 refine foldl_inv (Supp n) (fun a ha l h=>?_) h
 have ha:=List.mem_range.1 ha
 split
 ·exact h
 ·refine foldl_inv (Supp n) (fun b hb l h=>?_) h
  have hb:=List.mem_range.1 hb
  exact supp_set h (by omega) _
theorem supp_next {n:Nat} {f g:Rat} {x:List Rat} (hx:Supp n x):Supp n (nextR f g n x):=by
 unfold nextR
 refine foldl_inv (Supp n) (fun i hi l h=>?_) (supp_zero n)
 have hi:=List.mem_range.1 hi
 split
 ·exact h
 ·rename_i e
  refine supp_in h ?_ (by omega)
  rcases Nat.lt_or_ge n (i / (n + 1) + i % (n + 1)) with h1 | h1
  ·exact absurd (.inr (hx.z i hi h1)) e
  ·exact h1
theorem supp_first (p:Rat) (n:Nat):Supp n (firstR p n):=by
 unfold firstR
 refine foldl_inv (Supp n) (fun r hr l h=>?_) (supp_zero n)
 exact supp_set h (by have:=List.mem_range.1 hr;omega) _
theorem next_dot {n:Nat} {v:Nat→Nat→Rat} {f g:Rat} {x:List Rat} (hx:Supp n x) :
  dot n v (nextR f g n x) = sR (fun i=>if i % (n + 1) = 0 then 0 else x.getD i 0 * bsum (i / (n + 1)) fun a=>bsum (i % (n + 1) - 1) fun b=>(f ^ a * (1 - f) ^ (i / (n + 1) - a)) * (g ^ b * (1 - g) ^ (i % (n + 1) - 1 - b)) * v (i / (n + 1) - a) (i % (n + 1) - 1 - b + a)) (List.range ((n + 1) * (n + 1))):=by
 unfold nextR
 refine (foldl_dot (n:=n) (v:=v) (M:=List.range ((n + 1) * (n + 1))) (st:=fun l i=>if i % (n + 1) = 0∨x.getD i 0 = 0 then l else inR n f g (x.getD i 0) (i / (n + 1)) (i % (n + 1)) l)
  (h:=fun i=>if i % (n + 1) = 0 then 0 else x.getD i 0 * bsum (i / (n + 1)) fun a=>bsum (i % (n + 1) - 1) fun b=>(f ^ a * (1 - f) ^ (i / (n + 1) - a)) * (g ^ b * (1 - g) ^ (i % (n + 1) - 1 - b)) * v (i / (n + 1) - a) (i % (n + 1) - 1 - b + a)) (fun i hi l hl=>?_) (List.replicate ((n + 1) * (n + 1)) 0) (by simp)).2.trans ?_
 ·have hi:=List.mem_range.1 hi
  by_cases e1:i % (n + 1) = 0
  ·rw [if_pos (.inl e1),if_pos e1];exact ⟨hl,by grind⟩
  ·rw [if_neg e1]
   by_cases e2:x.getD i 0 = 0
   ·rw [if_pos (.inr e2),e2];exact ⟨hl,by grind⟩
   ·rw [if_neg (by rintro (h | h);exact e1 h;exact e2 h)]
    refine inR_dot hl ?_ (by omega)
    rcases Nat.lt_or_ge n (i / (n + 1) + i % (n + 1)) with h1 | h1
    ·exact absurd (hx.z i hi h1) e2
    ·exact h1
 ·rw [dot_zero,Rat.zero_add]
theorem first_dot (p:Rat) (n:Nat) (v:Nat→Nat→Rat):dot n v (firstR p n) = bsum n fun r=>p ^ r * (1 - p) ^ (n - r) * v (n - r) r:=by
 rw [← bsum_shar]
 have key:∀ m,m ≤ n + 1→((List.range m).foldl (fun l r=>l.set ((n - r) * (n + 1) + r) (shar p n r)) (List.replicate ((n + 1) * (n + 1)) 0)).length = (n + 1) * (n + 1) ∧
   (∀ r,m ≤ r→r ≤ n→((List.range m).foldl (fun l r=>l.set ((n - r) * (n + 1) + r) (shar p n r)) (List.replicate ((n + 1) * (n + 1)) 0)).getD ((n - r) * (n + 1) + r) 0 = 0) ∧
   dot n v ((List.range m).foldl (fun l r=>l.set ((n - r) * (n + 1) + r) (shar p n r)) (List.replicate ((n + 1) * (n + 1)) 0)) = sR (fun r=>shar p n r * v (n - r) r) (List.range m):=by
  intro m
  induction m with
  | zero=>intro _;exact ⟨by simp,fun r _ _=>getD_repl _ _,by simp only [List.range_zero,List.foldl_nil,sR];exact dot_zero _ _ _⟩
  | succ m ih=>
   intro hm
   obtain ⟨h1,h2,h3⟩:=ih (by omega)
   obtain ⟨k1,k2⟩:=place_div (n:=n) (q:=n - m) (r:=m) (by omega)
   have hlt:=place_lt (n:=n) (q:=n - m) (r:=m) (by omega) (by omega)
   rw [List.range_succ,List.foldl_append,List.foldl_cons,List.foldl_nil,sR_app]
   refine ⟨by rw [List.length_set,h1],fun r hr1 hr2=>?_,?_⟩
   ·rw [getD_setR _ _ _ _ (by rw [h1];exact hlt),if_neg,h2 r (by omega) hr2]
    intro e
    obtain ⟨_,k4⟩:=place_div (n:=n) (q:=n - r) (r:=r) (by omega)
    rw [e,k2] at k4;omega
   ·rw [dot_set h1 hlt,h3,h2 m (Nat.le_refl _) (by omega),k1,k2]
    simp only [sR];grind
 exact (key (n + 1) (Nat.le_refl _)).2.2
def lvR (p:Rat) (f:Nat→Rat) (n k:Nat):Nat→List Rat
 | 0=>firstR p n
 | j + 1=>nextR (f (k - j)) (1 / ((k - j:Nat):Rat)) n (lvR p f n k j)
def stuckR (n u:Nat) (x:List Rat):Rat:=sR (fun i=>if u = 0∨i % (n + 1) = 0 then x.getD i 0 else 0) (List.range ((n + 1) * (n + 1)))
theorem supp_lv (p:Rat) (f:Nat→Rat) (n k:Nat):∀ j,Supp n (lvR p f n k j)
 | 0=>supp_first p n
 | j + 1=>supp_next (supp_lv p f n k j)
theorem step_dot {n u:Nat} (φ f:Nat→Rat) {x:List Rat} (hx:Supp n x):dot n (vB φ f (u + 1)) x = φ (u + 1) * stuckR n (u + 1) x + dot n (vB φ f u) (nextR (f (u + 1)) (1 / ((u + 1:Nat):Rat)) n x):=by
 rw [next_dot hx]
 unfold dot stuckR
 rw [← sR_mul,← sR_add]
 refine sR_congr fun i _=>?_
 unfold dotF
 by_cases e:i % (n + 1) = 0
 ·rw [if_pos (.inr e),if_pos e,e,vB];grind
 ·rw [if_neg (by omega),if_neg e]
  obtain ⟨r,hr⟩ : ∃ r,i % (n + 1) = r + 1:=⟨i % (n + 1) - 1,by omega⟩
  rw [hr,vB,Nat.add_sub_cancel];grind
theorem last_dot {n:Nat} (φ f:Nat→Rat) (x:List Rat):dot n (vB φ f 0) x = φ 0 * stuckR n 0 x:=by
 unfold dot stuckR
 rw [← sR_mul]
 refine sR_congr fun i _=>?_
 unfold dotF
 rw [if_pos (.inl rfl),vB,Rat.mul_comm]
theorem stuck_dual (p:Rat) (φ f:Nat→Rat) (n k:Nat):sR (fun u=>φ u * stuckR n u (lvR p f n k (k - u))) (List.range (k + 1)) = bsum n fun r=>p ^ r * (1 - p) ^ (n - r) * vB φ f k (n - r) r:=by
 have key:∀ u,u ≤ k→dot n (vB φ f u) (lvR p f n k (k - u)) = sR (fun u=>φ u * stuckR n u (lvR p f n k (k - u))) (List.range (u + 1)):=by
  intro u
  induction u with
  | zero=>intro _;rw [last_dot];simp only [List.range_succ,List.range_zero,List.nil_append,sR];grind
  | succ u ih=>
   intro hu
   rw [step_dot φ f (supp_lv p f n k _),sR_last,← ih (by omega),Rat.add_comm]
   congr 2
   rw [show k - u = k - (u + 1) + 1 by omega,lvR,show k - (k - (u + 1)) = u + 1 by omega]
 rw [← key k (Nat.le_refl _),Nat.sub_self,lvR,first_dot]
theorem core_top {k:Nat} {X:List (List Int × Rat)} {φ:Nat→Rat} {F:List Int→List (List Int)→Rat} {Q P f:Nat→Rat} {P1:Rat} (hF:Core k (X.map (·.1)) φ F) (hE:Even k X Q P)
  (hf1:∀ u,u < k→Q (u + 1) * f (u + 1) = (u:Rat) * P (u + 1)) (hf2:∀ u,u < k→Q (u + 1) * (1 - f (u + 1)) = Q u)
  {U:List Int} (hU:U.Pairwise (· < ·)) (hk:U.length = k) (hin:∀ x ∈ U,0 ≤ x∧x < (k:Int)) (hne:∀ S ∈ X,1 ≤ cU U S.1)
  (h1:∀ g:List Int→Rat,sR (fun S=>S.2 * g (S.1.filter fun x=>U.contains x)) (X.filter fun S=>decide (cU U S.1 = 1)) = P1 * sR (fun t=>g [t]) U) (n:Nat) :
  tG X n (F U) = bsum n fun r=>((k:Rat) * P1) ^ r * Q k ^ (n - r) * vB φ f k (n - r) r:=by
 have e1:tG X n (F U) = tG X n fun x=>tG (sym U) 0 fun y=>F U (y ++ x):=rfl
 have e2:X.filter (fun S=>!(decide (cU U S.1 = 1))) = clo X U:=by
  unfold clo
  refine List.filter_congr fun S hS=>?_
  have:=hne S hS
  rw [Bool.eq_iff_iff];simp;omega
 rw [e1,tG_conv (L:=X) (M:=sym U) (p:=fun l=>decide (cU U l = 1)) (φ:=fun l=>l.filter fun x=>U.contains x) (P:=P1) (fun g=>?_) (fun l m h=>hF.perm _ _ _ h) fun S hS hp l=>?_]
 ·rw [e2]
  refine bsum_congr fun r hr=>?_
  rw [core_rec hF hE hf1 hf2 k U (n - r) (0 + r) hk (Nat.le_refl _) hU hin,Nat.zero_add,pow_mulR]
  grind
 ·rw [h1 g]
  unfold sym
  rw [sR_map]
  simp only [Rat.one_mul]
 ·have hp:=of_decide_eq_true hp
  unfold cU at hp
  obtain ⟨t,ht⟩:=List.length_eq_one_iff.1 hp
  have hmt:∀ x,x ∈ S.1∧x ∈ U ↔ x = t:=fun x=>by
   have:x ∈ S.1.filter (fun x=>U.contains x) ↔ x = t:=by rw [ht];simp
   rw [← this,List.mem_filter];simp
  have htU:=((hmt t).2 rfl).2
  simp only [ht]
  rw [hF.one _ _ l t (.inl (List.mem_map.2 ⟨S,hS,rfl⟩)) htU (sorted_nd hU) hmt,hF.one _ [t] l t (.inr rfl) htU (sorted_nd hU) fun z=>?_]
  constructor
  ·rintro ⟨h,_⟩;simpa using h
  ·rintro rfl;simp [htU]
theorem ripple_true {k:Nat} {X:List (List Int × Rat)} {φ:Nat→Rat} {F:List Int→List (List Int)→Rat} {Q P f:Nat→Rat} {P1 p:Rat} (hF:Core k (X.map (·.1)) φ F) (hE:Even k X Q P)
  (hf1:∀ u,u < k→Q (u + 1) * f (u + 1) = (u:Rat) * P (u + 1)) (hf2:∀ u,u < k→Q (u + 1) * (1 - f (u + 1)) = Q u)
  {U:List Int} (hU:U.Pairwise (· < ·)) (hk:U.length = k) (hin:∀ x ∈ U,0 ≤ x∧x < (k:Int)) (hne:∀ S ∈ X,1 ≤ cU U S.1)
  (h1:∀ g:List Int→Rat,sR (fun S=>S.2 * g (S.1.filter fun x=>U.contains x)) (X.filter fun S=>decide (cU U S.1 = 1)) = P1 * sR (fun t=>g [t]) U) (hp:p = (k:Rat) * P1) (hq:1 - p = Q k) (n:Nat) :
  sR (fun u=>φ u * stuckR n u (lvR p f n k (k - u))) (List.range (k + 1)) = tG X n (F U):=by
 rw [stuck_dual,core_top hF hE hf1 hf2 hU hk hin hne h1,← hp,← hq]
open Go Go.Proofs Go.RowKit
/-! How many sets meet so many. -/
def subs:List Int→List (List Int)
 | []=>[[]]
 | a :: U=>(subs U).map (a :: ·) ++ subs U
theorem ris_step {d f k:Nat} (h:f < k):risR (d + 1) f k = (risR d (f + 1) k).map (fun l=>((f:Nat):Int) :: l) ++ risR (d + 1) (f + 1) k:=by
 show (List.range (k - f)).flatMap (fun j:Nat=>(risR d (f + j + 1) k).map fun l=>((f + j:Nat):Int) :: l) = _
 obtain ⟨m,hm⟩ : ∃ m,k - f = m + 1:=⟨k - f - 1,by omega⟩
 rw [hm,List.range_succ_eq_map,List.flatMap_cons,List.flatMap_map]
 congr 1
 show _ = (List.range (k - (f + 1))).flatMap (fun j:Nat=>(risR d (f + 1 + j + 1) k).map fun l=>((f + 1 + j:Nat):Int) :: l)
 rw [show k - (f + 1) = m by omega]
 refine congrArg (fun g=>(List.range m).flatMap g) (funext fun j=>?_)
 rw [show f + (j + 1) = f + 1 + j by omega]
theorem ris_end {d f k:Nat} (h:k ≤ f):risR (d + 1) f k = []:=by
 show (List.range (k - f)).flatMap _ = _
 rw [show k - f = 0 by omega];rfl
theorem ris_lo:∀ {d f k:Nat} {l:List Int},l ∈ risR d f k→∀ x ∈ l,(f:Int) ≤ x
 | 0,f,k,l,h=>by rw [List.mem_singleton.1 h];intro x hx;cases hx
 | d + 1,f,k,l,h=>by
  obtain ⟨j,hj,h1⟩:=List.mem_flatMap.1 h
  obtain ⟨m,hm,rfl⟩:=List.mem_map.1 h1
  intro x hx
  rcases List.mem_cons.1 hx with rfl | hx
  ·omega
  ·have:=ris_lo hm x hx;omega
theorem ris_hi:∀ {d f k:Nat} {l:List Int},l ∈ risR d f k→l.length = d∧∀ x ∈ l,x < (k:Int)
 | 0,f,k,l,h=>by rw [List.mem_singleton.1 h];exact ⟨rfl,fun x hx=>nomatch hx⟩
 | d + 1,f,k,l,h=>by
  obtain ⟨j,hj,h1⟩:=List.mem_flatMap.1 h
  obtain ⟨m,hm,rfl⟩:=List.mem_map.1 h1
  have hj:=List.mem_range.1 hj
  obtain ⟨g1,g2⟩:=ris_hi hm
  refine ⟨by simp [g1],fun x hx=>?_⟩
  rcases List.mem_cons.1 hx with rfl | hx
  ·omega
  ·exact g2 x hx
theorem ris_nd:∀ {d f k:Nat} {l:List Int},l ∈ risR d f k→l.Pairwise (· < ·)
 | 0,f,k,l,h=>by rw [List.mem_singleton.1 h];exact .nil
 | d + 1,f,k,l,h=>by
  obtain ⟨j,hj,h1⟩:=List.mem_flatMap.1 h
  obtain ⟨m,hm,rfl⟩:=List.mem_map.1 h1
  exact List.pairwise_cons.2 ⟨fun x hx=>by have:=ris_lo hm x hx;omega,ris_nd hm⟩
def fillR (m d:Nat) (T:List Int):Rat:=if T.length ≤ d then (chs m (d - T.length):Rat) else 0
theorem filter_cons_in {U:List Int} {a:Int} {l:List Int} (h:∀ x ∈ l,x ≠ a):(a :: l).filter (fun x=>(a :: U).contains x) = a :: l.filter fun x=>U.contains x:=by
 rw [List.filter_cons,if_pos (by simp)]
 congr 1
 refine List.filter_congr fun x hx=>?_
 have:=h x hx
 simp [this]
theorem ris_sub:∀ {m d f k:Nat} {U:List Int} (G:List Int→Rat),k - f = m→U.Pairwise (· < ·)→(∀ x ∈ U,(f:Int) ≤ x∧x < k) →
  sR (fun S=>G (S.filter fun x=>U.contains x)) (risR d f k) = sR (fun T=>fillR (m - U.length) d T * G T) (subs U)
 | m,0,f,k,U,G,hm,hU,hin=>by
  have key:∀ (V:List Int) (m:Nat),sR (fun T=>fillR m 0 T * G T) (subs V) = G []:=by
   intro V
   induction V with
   | nil=>intro m;simp only [subs,sR,fillR,List.length_nil,Nat.le_refl,if_true,Nat.sub_zero,chs_zero];push_cast;grind
   | cons a V ih=>
    intro m
    simp only [subs]
    rw [sR_app,ih,sR_map,sR_congr (g:=fun _=>0) fun T _=>by unfold fillR;rw [if_neg (by simp)];grind,sR_zero];grind
  rw [key]
  show G ([].filter _) + 0 = G []
  rw [List.filter_nil];grind
 | 0,d + 1,f,k,U,G,hm,hU,hin=>by
  rw [ris_end (by omega)]
  cases U with
  | nil=>simp only [subs,sR,fillR,List.length_nil,Nat.zero_le,if_true,Nat.sub_zero,chs_over (Nat.zero_lt_succ d)];rw [show ((0:Nat):Rat) = 0 from rfl];grind
  | cons a V=>have:=hin a (by simp);omega
 | m + 1,d + 1,f,k,U,G,hm,hU,hin=>by
  rw [ris_step (by omega),sR_app,sR_map]
  have hlo:∀ {d:Nat} {l:List Int},l ∈ risR d (f + 1) k→∀ x ∈ l,x ≠ (f:Int):=fun h x hx=>by have:=ris_lo h x hx;omega
  by_cases hf:(f:Int) ∈ U
  ·cases U with
   | nil=>cases hf
   | cons a V=>
    obtain ⟨hV1,hV2⟩:=List.pairwise_cons.1 hU
    have ha:a = (f:Int):=by
     rcases List.mem_cons.1 hf with h | h
     ·exact h.symm
     ·have h1:=hV1 _ h
      have h2:=hin a (by simp);omega
    subst ha
    have hin':∀ x ∈ V,((f + 1:Nat):Int) ≤ x∧x < k:=fun x hx=>by have h1:=hV1 x hx;have h2:=hin x (by simp [hx]);omega
    have ih1:=ris_sub (m:=m) (d:=d) (f:=f + 1) (k:=k) (U:=V) (fun T=>G ((f:Int) :: T)) (by omega) hV2 hin'
    have ih2:=ris_sub (m:=m) (d:=d + 1) (f:=f + 1) (k:=k) (U:=V) G (by omega) hV2 hin'
    rw [sR_congr fun S hS=>by rw [filter_cons_in (hlo hS)],ih1]
    rw [sR_congr (l:=risR (d + 1) (f + 1) k) (g:=fun S=>G (S.filter fun x=>V.contains x)) fun S hS=>by
     congr 1
     refine List.filter_congr fun x hx=>?_
     have:=hlo hS x hx
     simp [this],ih2]
    simp only [subs]
    rw [sR_app,sR_map]
    congr 1
    ·refine sR_congr fun T _=>?_
     unfold fillR
     simp only [List.length_cons,Nat.add_le_add_iff_right,Nat.add_sub_add_right]
    ·refine sR_congr fun T _=>?_
     simp only [List.length_cons,Nat.add_sub_add_right]
  ·have hin':∀ x ∈ U,((f + 1:Nat):Int) ≤ x∧x < k:=fun x hx=>by
    have h1:=hin x hx
    have:x ≠ (f:Int):=fun e=>hf (e ▸ hx)
    omega
   have ih1:=ris_sub (m:=m) (d:=d) (f:=f + 1) (k:=k) (U:=U) G (by omega) hU hin'
   have ih2:=ris_sub (m:=m) (d:=d + 1) (f:=f + 1) (k:=k) (U:=U) G (by omega) hU hin'
   have hul:U.length ≤ m:=by
    have:∀ (V:List Int) (a:Nat),V.Pairwise (· < ·)→(∀ x ∈ V,(a:Int) ≤ x∧x < k)→V.length ≤ k - a:=by
     intro V
     induction V with
     | nil=>intro a _ _;simp
     | cons b V ih=>
      intro a h1 h2
      obtain ⟨g1,g2⟩:=List.pairwise_cons.1 h1
      have hb:=h2 b (by simp)
      have:=ih (b.toNat + 1) g2 fun x hx=>by have:=g1 x hx;have:=h2 x (by simp [hx]);omega
      simp only [List.length_cons];omega
    have:=this U (f + 1) hU hin'
    omega
   rw [sR_congr fun S hS=>by rw [List.filter_cons,if_neg (by simpa using hf)],ih1,ih2,← sR_add]
   refine sR_congr fun T _=>?_
   unfold fillR
   rw [show m + 1 - U.length = m - U.length + 1 by omega]
   by_cases e1:T.length ≤ d
   ·rw [if_pos e1,if_pos (by omega),if_pos (by omega),show d + 1 - T.length = d - T.length + 1 by omega,chs_succ];push_cast;grind
   ·by_cases e2:T.length ≤ d + 1
    ·rw [if_neg e1,if_pos e2,if_pos e2,show d + 1 - T.length = 0 by omega,chs_zero,chs_zero];grind
    ·rw [if_neg e1,if_neg e2,if_neg e2];grind
theorem subs_len (h:Nat→Rat):∀ U:List Int,sR (fun T=>h T.length) (subs U) = bsum U.length h
 | []=>by simp only [subs,sR,List.length_nil,bsum];grind
 | a :: U=>by
  simp only [subs,List.length_cons,bsum]
  rw [sR_app,sR_map,← subs_len h U,← subs_len (fun i=>h (i + 1)) U,Rat.add_comm]
  simp only [List.length_cons]
theorem subs_mem:∀ {U T:List Int},T ∈ subs U→∀ x ∈ T,x ∈ U
 | [],T,h,x,hx=>by rw [List.mem_singleton.1 h] at hx;cases hx
 | a :: U,T,h,x,hx=>by
  rcases List.mem_append.1 h with h | h
  ·obtain ⟨T',h',rfl⟩:=List.mem_map.1 h
   rcases List.mem_cons.1 hx with rfl | hx
   ·simp
   ·exact List.mem_cons_of_mem _ (subs_mem h' x hx)
  ·exact List.mem_cons_of_mem _ (subs_mem h x hx)
theorem subs_none (g:List Int→Rat):∀ U:List Int,sR (fun T=>if T.length = 0 then g T else 0) (subs U) = g []
 | []=>by simp only [subs,sR,List.length_nil,if_true];grind
 | a :: U=>by
  simp only [subs]
  rw [sR_app,sR_map,subs_none g U,sR_congr (g:=fun _=>0) fun T _=>by simp,sR_zero];grind
theorem subs_one (g:List Int→Rat):∀ U:List Int,sR (fun T=>if T.length = 1 then g T else 0) (subs U) = sR (fun t=>g [t]) U
 | []=>by simp only [subs,sR,List.length_nil];rw [if_neg (by decide)];grind
 | a :: U=>by
  simp only [subs,sR]
  rw [sR_app,sR_map,subs_one g U,← subs_none (fun T=>g (a :: T)) U]
  congr 1
  exact sR_congr fun T _=>by simp
theorem subs_two {s:Int} (g:List Int→Rat):∀ {U:List Int},U.Nodup→s ∈ U→sR (fun T=>if T.length = 2∧s ∈ T then g (T.filter fun x=>decide (x ≠ s)) else 0) (subs U) = sR (fun t=>g [t]) (U.erase s)
 | [],_,h=>by cases h
 | a :: U,hn,h=>by
  obtain ⟨h1,h2⟩:=List.nodup_cons.1 hn
  simp only [subs]
  rw [sR_app,sR_map]
  by_cases e:a = s
  ·subst e
   rw [List.erase_cons_head,← subs_one g U]
   have k1:sR (fun T:List Int=>if T.length = 2∧a ∈ T then g (T.filter fun x=>decide (x ≠ a)) else 0) (subs U) = 0:=by
    rw [sR_congr (g:=fun _=>0) fun T hT=>by rw [if_neg fun h=>h1 (subs_mem hT a h.2)],sR_zero]
   rw [k1,Rat.add_zero]
   refine sR_congr fun T hT=>?_
   have hT2:T.filter (fun x=>decide (x ≠ a)) = T:=List.filter_eq_self.2 fun x hx=>by
    have:x ≠ a:=fun e=>h1 (e ▸ subs_mem hT x hx)
    simp [this]
   by_cases e2:T.length = 1
   ·rw [if_pos e2,if_pos ⟨by simp [e2],by simp⟩,List.filter_cons,if_neg (by simp),hT2]
   ·rw [if_neg e2,if_neg (by simp [e2])]
  ·have hs:s ∈ U:=by
    rcases List.mem_cons.1 h with h | h
    ·exact absurd h.symm e
    ·exact h
   rw [List.erase_cons_tail (by simpa using e),subs_two g h2 hs]
   simp only [sR]
   congr 1
   have k1:=subs_one (fun T=>if s ∈ T then g [a] else 0) U
   rw [sR_congr (f:=fun t=>if s ∈ [t] then g [a] else 0) (g:=fun t=>if t = s then g [a] else 0) fun t _=>by simp [eq_comm]] at k1
   have k2:∀ V:List Int,V.Nodup→sR (fun t=>if t = s then g [a] else 0) V = if s ∈ V then g [a] else 0:=by
    intro V
    induction V with
    | nil=>intro _;simp [sR]
    | cons b V ih=>
     intro hV
     obtain ⟨v1,v2⟩:=List.nodup_cons.1 hV
     simp only [sR]
     rw [ih v2]
     by_cases eb:b = s
     ·subst eb;rw [if_pos rfl,if_neg v1,if_pos (by simp)];grind
     ·rw [if_neg eb]
      have:s ∈ b :: V ↔ s ∈ V:=by simp [Ne.symm eb]
      simp only [this];grind
   rw [k2 U h2,if_pos hs] at k1
   rw [← k1]
   refine sR_congr fun T hT=>?_
   by_cases e2:T.length = 1
   ·by_cases e3:s ∈ T
    ·obtain ⟨z,rfl⟩:=List.length_eq_one_iff.1 e2
     obtain rfl:s = z:=by simpa using e3
     rw [if_pos ⟨by simp,by simp⟩,if_pos e2,if_pos e3]
     congr 1
     rw [List.filter_cons,if_pos (by simpa using e),List.filter_cons,if_neg (by simp),List.filter_nil]
    ·rw [if_neg (by simp [e3,Ne.symm e]),if_pos e2,if_neg e3]
   ·rw [if_neg (by simp [e2]),if_neg e2]
open Go Go.Proofs Go.RowKit
/-! Sets of like size weigh alike. -/
def fillC (m d j:Nat):Rat:=if j ≤ d then (chs m (d - j):Rat) else 0
def evX (m k:Nat) (ω:Nat→Rat):List (List Int × Rat):=(List.range m).flatMap fun i=>(risR (i + 1) 0 k).map fun l=>(l,ω i)
def evQ (m k:Nat) (ω:Nat→Rat) (u:Nat):Rat:=sR (fun i=>ω i * bsum u fun j=>if 2 ≤ j then fillC (k - u) (i + 1) j else 0) (List.range m)
def evP (m k:Nat) (ω:Nat→Rat) (u:Nat):Rat:=sR (fun i=>ω i * fillC (k - u) (i + 1) 2) (List.range m)
def evI (m k:Nat) (ω:Nat→Rat) (u j:Nat):Rat:=sR (fun i=>ω i * ((chs u j:Rat) * fillC (k - u) (i + 1) j)) (List.range m)
theorem sR_flat {α β:Type} (F:β→Rat) (g:α→List β):∀ l:List α,sR F (l.flatMap g) = sR (fun a=>sR F (g a)) l
 | []=>rfl
 | a :: l=>by rw [List.flatMap_cons,sR_app,sR_flat F g l];rfl
theorem sR_if {α:Type} (F:α→Rat) (p:α→Bool):∀ l:List α,sR F (l.filter p) = sR (fun x=>if p x = true then F x else 0) l
 | []=>rfl
 | a :: l=>by
  rw [List.filter_cons]
  simp only [sR]
  rw [← sR_if F p l]
  cases p a
  ·simp only [Bool.false_eq_true,if_false];grind
  ·simp only [if_true,sR]
theorem ev_sum {m k:Nat} {ω:Nat→Rat} {U:List Int} (hU:U.Pairwise (· < ·)) (hin:∀ x ∈ U,0 ≤ x∧x < (k:Int)) (H:List Int→Rat) :
  sR (fun S=>S.2 * H (S.1.filter fun x=>U.contains x)) (evX m k ω) = sR (fun i=>ω i * sR (fun T=>fillC (k - U.length) (i + 1) T.length * H T) (subs U)) (List.range m):=by
 unfold evX
 rw [sR_flat]
 refine sR_congr fun i _=>?_
 rw [sR_map,sR_mul (ω i) (fun S:List Int=>H (S.filter fun x=>U.contains x)),ris_sub (m:=k) H rfl hU fun x hx=>by have:=hin x hx;omega]
 rfl
theorem ev_nd {m k:Nat} {ω:Nat→Rat}:∀ s ∈ evX m k ω,s.1.Pairwise (· < ·)∧∃ i,i < m∧s.1 ∈ risR (i + 1) 0 k∧s.2 = ω i:=fun s hs=>by
 obtain ⟨i,hi,h1⟩:=List.mem_flatMap.1 hs
 obtain ⟨l,hl,rfl⟩:=List.mem_map.1 h1
 exact ⟨ris_nd hl,i,List.mem_range.1 hi,hl,rfl⟩
theorem filter_erase {U:List Int} (hU:U.Nodup) (s:Int) (l:List Int):l.filter (fun x=>(U.erase s).contains x) = (l.filter fun x=>U.contains x).filter fun x=>decide (x ≠ s):=by
 rw [List.filter_filter]
 refine List.filter_congr fun x _=>?_
 rw [Bool.eq_iff_iff]
 simp [hU.mem_erase_iff]
theorem ev_even (m k:Nat) (ω:Nat→Rat):Even k (evX m k ω) (evQ m k ω) (evP m k ω):=by
 refine ⟨fun s hs=>sorted_nd (ev_nd s hs).1,fun U hU hin=>?_,fun U hU hin s hs g=>?_⟩
 ·unfold clo evQ
  rw [sR_if]
  have:=ev_sum (m:=m) (ω:=ω) hU hin fun T=>if 2 ≤ T.length then 1 else 0
  rw [sR_congr (g:=fun S=>S.2 * (fun T:List Int=>if 2 ≤ T.length then 1 else 0) (S.1.filter fun x=>U.contains x)) fun S _=>?_,this]
  ·refine sR_congr fun i _=>?_
   rw [← subs_len]
   congr 1
   refine sR_congr fun T _=>?_
   split <;> grind
  ·unfold cU
   by_cases e:2 ≤ (S.1.filter fun x=>U.contains x).length
   ·simp only [e,decide_true,if_true];grind
   ·simp only [e,decide_false,Bool.false_eq_true,if_false];grind
 ·unfold evP
  have hn:=sorted_nd hU
  rw [sR_if]
  have:=ev_sum (m:=m) (ω:=ω) hU hin fun T=>if T.length = 2∧s ∈ T then g (T.filter fun x=>decide (x ≠ s)) else 0
  rw [sR_congr (g:=fun S=>S.2 * (fun T:List Int=>if T.length = 2∧s ∈ T then g (T.filter fun x=>decide (x ≠ s)) else 0) (S.1.filter fun x=>U.contains x)) fun S _=>?_,this]
  ·rw [← Rat.mul_comm,← sR_mul]
   refine sR_congr fun i _=>?_
   rw [← subs_two g hn hs,Rat.mul_comm (sR _ _),Rat.mul_assoc]
   congr 1
   rw [← sR_mul]
   refine sR_congr fun T _=>?_
   split
   ·rename_i h;rw [h.1]
   ·grind
  ·have hm:s ∈ S.1.filter (fun x=>U.contains x) ↔ s ∈ S.1:=by rw [List.mem_filter];simp [hs]
   unfold cU
   rw [filter_erase hn]
   simp only [hm]
   by_cases e:(S.1.filter fun x=>U.contains x).length = 2∧s ∈ S.1
   ·rw [if_pos e,if_pos (by rw [Bool.and_eq_true];exact ⟨decide_eq_true e.1,by simpa using e.2⟩)]
   ·rw [if_neg e,if_neg (by rw [Bool.and_eq_true];rintro ⟨h1,h2⟩;exact e ⟨of_decide_eq_true h1,by simpa using h2⟩)];grind
theorem ev_one {m k:Nat} {ω:Nat→Rat} {U:List Int} (hU:U.Pairwise (· < ·)) (hin:∀ x ∈ U,0 ≤ x∧x < (k:Int)) (g:List Int→Rat) :
  sR (fun S=>S.2 * g (S.1.filter fun x=>U.contains x)) ((evX m k ω).filter fun S=>decide (cU U S.1 = 1)) = sR (fun i=>ω i * fillC (k - U.length) (i + 1) 1) (List.range m) * sR (fun t=>g [t]) U:=by
 rw [sR_if]
 have:=ev_sum (m:=m) (ω:=ω) hU hin fun T=>if T.length = 1 then g T else 0
 rw [sR_congr (g:=fun S=>S.2 * (fun T:List Int=>if T.length = 1 then g T else 0) (S.1.filter fun x=>U.contains x)) fun S _=>?_,this]
 ·rw [← Rat.mul_comm,← sR_mul]
  refine sR_congr fun i _=>?_
  rw [← subs_one g,Rat.mul_comm (sR _ _),Rat.mul_assoc]
  congr 1
  rw [← sR_mul]
  refine sR_congr fun T _=>?_
  split
  ·rename_i h;rw [h]
  ·grind
 ·unfold cU
  by_cases e:(S.1.filter fun x=>U.contains x).length = 1
  ·simp only [e,decide_true,if_true]
  ·simp only [e,decide_false,Bool.false_eq_true,if_false];grind
theorem evI_two (m k:Nat) (ω:Nat→Rat) (u:Nat):evI m k ω u 2 = (chs u 2:Rat) * evP m k ω u:=by
 unfold evI evP
 rw [← sR_mul]
 exact sR_congr fun i _=>by grind
theorem bsum_range (u:Nat) (h:Nat→Rat):bsum u (fun j=>if 2 ≤ j then h j else 0) = sR (fun j=>(chs u (j + 2):Rat) * h (j + 2)) (List.range (u - 1)):=by
 rw [← bsum_chs,sR_shift]
 cases u with
 | zero=>simp [sR,Rat.mul_zero,Rat.add_zero]
 | succ u=>
  rw [sR_shift,Nat.add_sub_cancel]
  simp only [show ¬ (2 ≤ 0) by decide,show ¬ (2 ≤ 0 + 1) by decide,if_false]
  rw [sR_congr (g:=fun j=>(chs (u + 1) (j + 2):Rat) * h (j + 2)) fun j _=>by rw [if_pos (by omega)]]
  grind
theorem evQ_sum (m k:Nat) (ω:Nat→Rat) (u:Nat):evQ m k ω u = sR (fun j=>evI m k ω u (j + 2)) (List.range (u - 1)):=by
 unfold evQ evI
 rw [sR_comm]
 refine sR_congr fun i _=>?_
 rw [bsum_range,← sR_mul]
theorem evQ_step (m k:Nat) (ω:Nat→Rat) {u:Nat} (hu:u < k):evQ m k ω (u + 1) = (u:Rat) * evP m k ω (u + 1) + evQ m k ω u:=by
 have hE:=ev_even m k ω
 have hU:∀ u,((List.range u).map fun i:Nat=>(i:Int)).Pairwise (· < ·):=fun u=>by
  rw [List.pairwise_map]
  exact List.pairwise_lt_range.imp fun h=>by omega
 obtain ⟨U,hUe⟩ : ∃ U,U = (List.range (u + 1)).map fun i:Nat=>(i:Int):=⟨_,rfl⟩
 have h1:U.Pairwise (· < ·):=hUe ▸ hU (u + 1)
 have hn:=sorted_nd h1
 have hl:U.length = u + 1:=by rw [hUe];simp
 have hin:∀ x ∈ U,0 ≤ x∧x < (k:Int):=fun x hx=>by
  rw [hUe] at hx
  obtain ⟨i,hi,rfl⟩:=List.mem_map.1 hx
  have:=List.mem_range.1 hi;omega
 have hs:(0:Int) ∈ U:=by rw [hUe];exact List.mem_map.2 ⟨0,List.mem_range.2 (by omega),rfl⟩
 have hl':(U.erase 0).length = u:=by rw [List.length_erase_of_mem hs,hl];rfl
 have a1:=hE.cloud U h1 hin
 have a2:=hE.cloud (U.erase 0) (h1.sublist List.erase_sublist) fun x hx=>hin x (List.mem_of_mem_erase hx)
 have a3:=hE.two U h1 hin 0 hs fun _=>1
 rw [hl] at a1 a3
 rw [hl'] at a2
 rw [sR_const,hl'] at a3
 rw [← a1,← a2]
 unfold clo at *
 rw [sR_if] at a3
 rw [sR_if,sR_if,show (u:Rat) * evP m k ω (u + 1) = evP m k ω (u + 1) * ((u:Rat) * 1) by grind,← a3,← sR_add]
 refine sR_congr fun S hS=>?_
 have h2:=cU_erase hn hs (hE.nd S hS)
 by_cases hm:(0:Int) ∈ S.1
 ·rw [if_pos hm] at h2
  have hc:S.1.contains 0 = true:=by simpa using hm
  rw [hc]
  simp only [Bool.and_true,decide_eq_true_eq]
  by_cases e:cU U S.1 = 2
  ·rw [if_pos (by omega),if_pos e,if_neg (by omega)];grind
  ·by_cases e2:2 ≤ cU U S.1
   ·rw [if_pos e2,if_neg e,if_pos (by omega)];grind
   ·rw [if_neg e2,if_neg e,if_neg (by omega)];grind
 ·rw [if_neg hm,Nat.add_zero] at h2
  have hc:S.1.contains 0 = false:=by simpa using hm
  rw [hc,Bool.and_false,h2,if_neg (show ¬ false = true from Bool.false_ne_true),Rat.zero_add]
theorem sR_nonneg {α:Type} {f:α→Rat}:∀ {l:List α},(∀ x ∈ l,0 ≤ f x)→0 ≤ sR f l
 | [],_=>by simp only [sR];exact Rat.le_refl
 | a :: l,h=>by
  have h1:=h a (by simp)
  have h2:=sR_nonneg (l:=l) fun x hx=>h x (by simp [hx])
  simp only [sR];grind
theorem bsum_nonneg:∀ {c:Nat} {f:Nat→Rat},(∀ a,0 ≤ f a)→0 ≤ bsum c f
 | 0,f,h=>h 0
 | c + 1,f,h=>by
  have h1:=bsum_nonneg (c:=c) h
  have h2:=bsum_nonneg (c:=c) fun a=>h (a + 1)
  simp only [bsum];grind
theorem natR_nonneg (n:Nat):(0:Rat) ≤ (n:Rat):=by exact_mod_cast Nat.zero_le n
theorem fillC_nonneg (m d j:Nat):0 ≤ fillC m d j:=by
 unfold fillC;split
 ·exact natR_nonneg _
 ·exact Rat.le_refl
theorem evP_nonneg {m k:Nat} {ω:Nat→Rat} (h:∀ i,i < m→0 ≤ ω i) (u:Nat):0 ≤ evP m k ω u:=
 sR_nonneg fun i hi=>Rat.mul_nonneg (h i (List.mem_range.1 hi)) (fillC_nonneg _ _ _)
theorem evQ_nonneg {m k:Nat} {ω:Nat→Rat} (h:∀ i,i < m→0 ≤ ω i) (u:Nat):0 ≤ evQ m k ω u:=
 sR_nonneg fun i hi=>Rat.mul_nonneg (h i (List.mem_range.1 hi)) (bsum_nonneg fun j=>by
  split
  ·exact fillC_nonneg _ _ _
  ·exact Rat.le_refl)
def freeR (m k:Nat) (ω:Nat→Rat) (u:Nat):Rat:=if evQ m k ω u = 0 then 0 else 2 / (u:Rat) * evI m k ω u 2 / evQ m k ω u
theorem chs_one:∀ n:Nat,chs n 1 = n
 | 0=>rfl
 | n + 1=>by rw [show chs (n + 1) 1 = chs n 0 + chs n 1 from rfl,chs_zero,chs_one n,Nat.add_comm]
theorem chs_two:∀ u:Nat,2 * chs (u + 1) 2 = (u + 1) * u
 | 0=>rfl
 | u + 1=>by
  rw [show chs (u + 1 + 1) 2 = chs (u + 1) 1 + chs (u + 1) 2 from rfl,Nat.mul_add,chs_two u]
  rw [chs_one];grind
theorem free_one {m k:Nat} {ω:Nat→Rat} (h:∀ i,i < m→0 ≤ ω i) {u:Nat} (hu:u < k):evQ m k ω (u + 1) * freeR m k ω (u + 1) = (u:Rat) * evP m k ω (u + 1):=by
 have h1:=evQ_step m k ω hu
 have h2:=evQ_nonneg (k:=k) h u
 have h3:=Rat.mul_nonneg (natR_nonneg u) (evP_nonneg (k:=k) h (u + 1))
 unfold freeR
 by_cases e:evQ m k ω (u + 1) = 0
 ·rw [if_pos e,e]
  rw [e] at h1
  grind
 ·rw [if_neg e,evI_two]
  have h4:(2:Rat) * (chs (u + 1) 2:Rat) = ((u + 1:Nat):Rat) * (u:Rat):=by exact_mod_cast congrArg (Nat.cast (R:=Rat)) (chs_two u)
  have h5:((u + 1:Nat):Rat) ≠ 0:=by
   intro h
   have:((u + 1:Nat):Rat) = ((0:Nat):Rat):=h
   have:=Rat.natCast_inj.1 this
   omega
  generalize ((u + 1:Nat):Rat) = N at *
  generalize evP m k ω (u + 1) = p at *
  generalize evQ m k ω (u + 1) = q at *
  generalize (chs (u + 1) 2:Rat) = c at *
  have:q * (2 / N * (c * p) / q) = (2 * c) * p / N:=by grind
  rw [this,h4]
  grind
theorem free_two {m k:Nat} {ω:Nat→Rat} (h:∀ i,i < m→0 ≤ ω i) {u:Nat} (hu:u < k):evQ m k ω (u + 1) * (1 - freeR m k ω (u + 1)) = evQ m k ω u:=by
 have h1:=free_one h hu
 have h2:=evQ_step m k ω hu
 grind
open Go Go.Proofs Go.RowKit
open Classical in
noncomputable def corF (φ:Nat→Rat) (U:List Int) (ls:List (List Int)):Rat:=φ (U.filter fun s=>!decide (Kn (ls.map fun l=>l.filter fun x=>U.contains x) s)).length
theorem Kn.iff {ls ls':List (List Int)} (h:∀ l,l ∈ ls ↔ l ∈ ls') (s:Int):Kn ls s ↔ Kn ls' s:=⟨Kn.mono fun l hl=>(h l).1 hl,Kn.mono fun l hl=>(h l).2 hl⟩
theorem Kn.skip {ls:List (List Int)} {s:Int} (h:Kn ([] :: ls) s):Kn ls s:=by
 induction h with
 | mk l s hl hs _ ih=>
  rcases List.mem_cons.1 hl with rfl | hl
  ·cases hs
  ·exact .mk l s hl hs ih
theorem Kn.one_iff {U l:List Int} {ls:List (List Int)} {s:Int} (hU:U.Nodup) (hs:s ∈ U) (hl:∀ x,x ∈ l∧x ∈ U ↔ x = s) (x:Int) :
  Kn ((l :: ls).map fun l=>l.filter fun x=>U.contains x) x ↔ x = s∨Kn (ls.map fun l=>l.filter fun x=>(U.erase s).contains x) x:=by
 have hm:∀ (l:List Int) (z:Int),z ∈ l.filter (fun x=>U.contains x) ↔ z ∈ l∧z ∈ U:=fun l z=>by rw [List.mem_filter];simp
 have hm':∀ (l:List Int) (z:Int),z ∈ l.filter (fun x=>(U.erase s).contains x) ↔ z ∈ l∧z ≠ s∧z ∈ U:=fun l z=>by rw [List.mem_filter];simp [hU.mem_erase_iff]
 have hks:Kn ((l :: ls).map fun l=>l.filter fun x=>U.contains x) s:=.mk (l.filter fun x=>U.contains x) s (by simp) ((hm l s).2 ((hl s).2 rfl)) fun y hy hne=>absurd ((hl y).1 ((hm l y).1 hy)) hne
 constructor
 ·intro h
  induction h with
  | mk l0 x hl0 hx _ ih=>
   obtain ⟨l1,h1,rfl⟩:=List.mem_map.1 hl0
   obtain ⟨g1,g2⟩:=(hm l1 x).1 hx
   rcases List.mem_cons.1 h1 with rfl | h1
   ·exact .inl ((hl x).1 ⟨g1,g2⟩)
   ·by_cases e:x = s
    ·exact .inl e
    ·refine .inr (.mk (l1.filter fun x=>(U.erase s).contains x) x (List.mem_map.2 ⟨l1,h1,rfl⟩) ((hm' l1 x).2 ⟨g1,e,g2⟩) fun y hy hne=>?_)
     obtain ⟨k1,k2,k3⟩:=(hm' l1 y).1 hy
     exact (ih y ((hm l1 y).2 ⟨k1,k3⟩) hne).resolve_left k2
 ·rintro (rfl | h)
  ·exact hks
  ·induction h with
   | mk l0 x hl0 hx _ ih=>
    obtain ⟨l1,h1,rfl⟩:=List.mem_map.1 hl0
    obtain ⟨g1,g2,g3⟩:=(hm' l1 x).1 hx
    refine .mk (l1.filter fun x=>U.contains x) x (List.mem_map.2 ⟨l1,List.mem_cons_of_mem _ h1,rfl⟩) ((hm l1 x).2 ⟨g1,g3⟩) fun y hy hne=>?_
    obtain ⟨k1,k2⟩:=(hm l1 y).1 hy
    by_cases e:y = s
    ·rw [e];exact hks
    ·exact ih y ((hm' l1 y).2 ⟨k1,e,k2⟩) hne
open Classical in
theorem cor_core {k:Nat} {X:List (List Int)} (φ:Nat→Rat) (hX:∀ l ∈ X,l.Nodup):Core k X φ (corF φ):=by
 refine ⟨fun U l m h=>?_,fun U l ls h=>?_,fun U l ls s _ hs hU hl=>?_,fun U ls hU _ h=>?_⟩
 ·unfold corF
  congr 2
  refine List.filter_congr fun s _=>?_
  have:=Kn.iff (ls:=l.map fun l=>l.filter fun x=>U.contains x) (ls':=m.map fun l=>l.filter fun x=>U.contains x) (fun z=>by simp only [List.mem_map,h.mem_iff]) s
  exact congrArg (fun b=>!b) (decide_eq_decide.2 this)
 ·unfold corF
  congr 2
  refine List.filter_congr fun s _=>?_
  have h0:l.filter (fun x=>U.contains x) = []:=List.eq_nil_of_length_eq_zero h
  have:Kn ((l :: ls).map fun l=>l.filter fun x=>U.contains x) s ↔ Kn (ls.map fun l=>l.filter fun x=>U.contains x) s:=by
   rw [List.map_cons,h0]
   exact ⟨Kn.skip,Kn.mono fun l hl=>List.mem_cons_of_mem _ hl⟩
  exact congrArg (fun b=>!b) (decide_eq_decide.2 this)
 ·unfold corF
  congr 1
  rw [hU.erase_eq_filter,List.filter_filter,← hU.erase_eq_filter]
  congr 1
  refine List.filter_congr fun x _=>?_
  have:=Kn.one_iff (ls:=ls) hU hs hl x
  by_cases e:x = s
  ·rw [decide_eq_true (this.2 (.inl e))];subst e;simp
  ·rw [decide_eq_decide.2 (this.trans ⟨fun h=>h.resolve_left e,.inr⟩)];rw [show (x != s) = true from bne_iff_ne.2 e,Bool.and_true]
 ·unfold corF
  congr 2
  refine List.filter_eq_self.2 fun s hs=>?_
  have:¬ Kn (ls.map fun l=>l.filter fun x=>U.contains x) s:=fun hk=>by
   have:=hk.not (p:=fun x=>U.contains x) (fun l hl=>?_) fun l hl=>?_
   ·simp [hs] at this
   ·obtain ⟨l1,h1,rfl⟩:=List.mem_map.1 hl
    exact (hX l1 (h l1 h1).1).sublist List.filter_sublist
   ·obtain ⟨l1,h1,rfl⟩:=List.mem_map.1 hl
    have h2:=(h l1 h1).2
    unfold cnt
    rw [List.filter_filter]
    simp only [Bool.and_self]
    unfold cU at h2
    omega
  show (!decide _) = true
  rw [decide_eq_false this];rfl
theorem cor_all {φ:Nat→Rat} {k:Nat} {ls:List (List Int)} (h:∀ l ∈ ls,∀ x ∈ l,0 ≤ x∧x < (k:Int)):corF φ (belowI k) ls = φ (largeL k ls).length:=by
 unfold corF largeL
 have:(ls.map fun l=>l.filter fun x=>(belowI k).contains x) = ls:=by
  conv=>rhs;rw [← List.map_id ls]
  refine List.map_congr_left fun l hl=>List.filter_eq_self.2 fun x hx=>?_
  have:=mem_belowI.2 (h l hl x hx)
  simpa using this
 rw [this]
theorem ev_all {m k:Nat} {ω:Nat→Rat}:∀ S ∈ evX m k ω,cU (belowI k) S.1 = S.1.length∧(∀ x ∈ S.1,0 ≤ x∧x < (k:Int))∧1 ≤ S.1.length:=fun S hS=>by
 obtain ⟨_,i,hi,h2,_⟩:=ev_nd S hS
 have h3:=ris_hi h2
 have h4:∀ x ∈ S.1,0 ≤ x∧x < (k:Int):=fun x hx=>⟨by have:=ris_lo h2 x hx;omega,h3.2 x hx⟩
 refine ⟨?_,h4,by omega⟩
 unfold cU
 rw [List.filter_eq_self.2 fun x hx=>by simpa using mem_belowI.2 (h4 x hx)]
theorem ev_belowI (k:Nat):(belowI (k:Int)).Pairwise (· < ·)∧(belowI (k:Int)).length = k∧∀ x ∈ belowI (k:Int),0 ≤ x∧x < (k:Int):=
 ⟨belowI_sorted k,by rw [belowI_len];rfl,fun x hx=>mem_belowI.1 hx⟩
theorem evI_one (m k:Nat) (ω:Nat→Rat):evI m k ω k 1 = (k:Rat) * sR (fun i=>ω i * fillC (k - k) (i + 1) 1) (List.range m):=by
 unfold evI
 rw [← sR_mul]
 refine sR_congr fun i _=>?_
 rw [chs_one];grind
theorem ev_lack {m k:Nat} {ω:Nat→Rat} (h1:sR (·.2) (evX m k ω) = 1):1 - evI m k ω k 1 = evQ m k ω k:=by
 obtain ⟨hU,hl,hin⟩:=ev_belowI k
 have hT:=ev_one (m:=m) (ω:=ω) hU hin fun _=>1
 rw [hl] at hT
 rw [evI_one]
 have hQ:=(ev_even m k ω).cloud (belowI k) hU hin
 rw [hl] at hQ
 rw [← hQ,← h1]
 unfold clo
 rw [sR_const,hl,Rat.mul_one] at hT
 rw [sR_filter (·.2) (fun S=>decide (2 ≤ cU (belowI k) S.1)) (evX m k ω),Rat.mul_comm,← hT]
 have h3:((evX m k ω).filter fun S=>!decide (2 ≤ cU (belowI k) S.1)) = (evX m k ω).filter fun S=>decide (cU (belowI k) S.1 = 1):=List.filter_congr fun S hS=>by
  have:=ev_all S hS
  rw [Bool.eq_iff_iff];simp;omega
 rw [h3,sR_congr (f:=fun S:List Int × Rat=>S.2 * 1) (g:=(·.2)) fun S _=>Rat.mul_one _]
 grind
theorem evQ_le {m k:Nat} {ω:Nat→Rat} (hω:∀ i,i < m→0 ≤ ω i) (h1:sR (·.2) (evX m k ω) = 1) {u:Nat} (hu:u ≤ k):evQ m k ω u ≤ 1:=by
 obtain ⟨_,hl,_⟩:=ev_belowI u
 have hQ:=(ev_even m k ω).cloud (belowI u) (belowI_sorted u) fun x hx=>by have:=mem_belowI.1 hx;omega
 rw [hl] at hQ
 rw [← hQ,← h1]
 unfold clo
 rw [sR_filter (·.2) (fun S=>decide (2 ≤ cU (belowI u) S.1)) (evX m k ω)]
 have:0 ≤ sR (·.2) ((evX m k ω).filter fun S=>!decide (2 ≤ cU (belowI u) S.1)):=sR_nonneg fun S hS=>by
  obtain ⟨_,i,hi,_,h4⟩:=ev_nd S (List.mem_filter.1 hS).1
  rw [h4];exact hω i hi
 grind
theorem ripple_sets {m k:Nat} {ω:Nat→Rat} (φ:Nat→Rat) (hω:∀ i,i < m→0 ≤ ω i) (h1:sR (·.2) (evX m k ω) = 1) (n:Nat) :
  sR (fun u=>φ u * stuckR n u (lvR (evI m k ω k 1) (freeR m k ω) n k (k - u))) (List.range (k + 1)) = tG (evX m k ω) n fun ls=>φ (largeL k ls).length:=by
 obtain ⟨hU,hl,hin⟩:=ev_belowI k
 have hT:=ev_one (m:=m) (ω:=ω) hU hin
 rw [hl] at hT
 refine (ripple_true (cor_core φ fun l hl=>?_) (ev_even m k ω) (fun u hu=>free_one hω hu) (fun u hu=>free_two hω hu) hU hl hin (fun S hS=>?_) hT (evI_one m k ω) (ev_lack h1) n).trans (tG_congr fun ls _ hls=>cor_all fun l hl x hx=>?_)
 ·obtain ⟨S,hS,rfl⟩:=List.mem_map.1 hl
  exact sorted_nd (ev_nd S hS).1
 ·rw [(ev_all S hS).1];exact (ev_all S hS).2.2
 ·obtain ⟨w,hw⟩:=hls l hl
  exact (ev_all _ hw).2.1 x hx
open Go Go.Proofs Go.RowKit
/-! Fractions over one number, and how large they are. -/
def FrQ (E:Nat) (q:Rat):Prop:=∃ a:Nat,q = (a:Rat) / (E:Rat)
theorem nz {n:Nat} (h:n ≠ 0):(n:Rat) ≠ 0:=fun e=>h (by have:(n:Rat) = ((0:Nat):Rat):=e;exact Rat.natCast_inj.1 this)
theorem FrQ.zero (E:Nat):FrQ E 0:=⟨0,by rw [show ((0:Nat):Rat) = 0 from rfl];grind⟩
theorem FrQ.nonneg {E:Nat} {q:Rat} (h:FrQ E q):0 ≤ q:=by
 obtain ⟨a,rfl⟩:=h
 rw [Rat.div_def]
 refine Rat.mul_nonneg (natR_nonneg a) ?_
 rcases Nat.eq_zero_or_pos E with h | h
 ·subst h;rw [show ((0:Nat):Rat) = 0 from rfl,Rat.inv_zero];exact Rat.le_refl
 ·exact Rat.le_of_lt (Rat.inv_pos.2 (by exact_mod_cast h))
theorem FrQ.mul {E D:Nat} {q r:Rat} (h:FrQ E q) (k:FrQ D r):FrQ (E * D) (q * r):=by
 obtain ⟨a,rfl⟩:=h
 obtain ⟨b,rfl⟩:=k
 refine ⟨a * b,?_⟩
 push_cast
 rw [Rat.div_def,Rat.div_def,Rat.div_def,Rat.inv_mul_rev];grind
theorem FrQ.add {E:Nat} {q r:Rat} (h:FrQ E q) (k:FrQ E r):FrQ E (q + r):=by
 obtain ⟨a,rfl⟩:=h
 obtain ⟨b,rfl⟩:=k
 refine ⟨a + b,?_⟩
 push_cast;rw [Rat.div_def,Rat.div_def,Rat.div_def];grind
theorem FrQ.up {E:Nat} {q:Rat} (h:FrQ E q) (m:Nat) (hm:m ≠ 0):FrQ (E * m) q:=by
 obtain ⟨a,rfl⟩:=h
 refine ⟨a * m,?_⟩
 have:=nz hm
 push_cast
 rw [Rat.div_def,Rat.div_def,Rat.inv_mul_rev];grind
theorem FrQ.pow {E:Nat} {q:Rat} (h:FrQ E q):∀ i,FrQ (E ^ i) (q ^ i)
 | 0=>⟨1,by rw [Nat.pow_zero,Rat.pow_zero,show ((1:Nat):Rat) = 1 from rfl];grind⟩
 | i + 1=>by rw [Nat.pow_succ,Rat.pow_succ];exact (FrQ.pow h i).mul h
theorem FrQ.nat (a:Nat):FrQ 1 (a:Rat):=⟨a,by rw [show ((1:Nat):Rat) = 1 from rfl];grind⟩
theorem FrQ.self (q:Rat) (h:0 ≤ q):FrQ q.den q:=by
 have hn:0 ≤ q.num:=Rat.num_nonneg.2 h
 refine ⟨q.num.toNat,?_⟩
 have e:((q.num.toNat:Nat):Rat) = (q.num:Rat):=by
  have:((q.num.toNat:Nat):Int) = q.num:=Int.toNat_of_nonneg hn
  rw [← Rat.intCast_natCast,this]
 rw [e]
 exact (Rat.mkRat_self q).symm.trans (Rat.mkRat_eq_div _ _)
theorem div_le1 {a E:Rat} (hE:0 < E) (h:a / E ≤ 1):a ≤ E:=by
 have h1:=Rat.mul_le_mul_of_nonneg_right h (Rat.le_of_lt hE)
 rw [Rat.one_mul] at h1
 have h2:E ≠ 0:=fun e=>by rw [e] at hE;exact Rat.lt_irrefl hE
 have:a / E * E = a:=by grind
 rwa [this] at h1
theorem le_div1 {a E:Rat} (hE:0 < E) (h:a ≤ E):a / E ≤ 1:=by
 have h1:=Rat.mul_le_mul_of_nonneg_right h (Rat.le_of_lt (Rat.inv_pos.2 hE))
 have h2:E ≠ 0:=fun e=>by rw [e] at hE;exact Rat.lt_irrefl hE
 have:E * E⁻¹ = 1:=by grind
 rw [this] at h1
 rwa [Rat.div_def]
theorem FrQ.lack {E:Nat} {q:Rat} (h:FrQ E q) (hE:E ≠ 0) (h1:q ≤ 1):FrQ E (1 - q):=by
 obtain ⟨a,rfl⟩:=h
 have h0:=nz hE
 have hle:a ≤ E:=by
  have h2:(0:Rat) < (E:Rat):=by exact_mod_cast Nat.pos_of_ne_zero hE
  have:=div_le1 h2 h1
  exact_mod_cast this
 refine ⟨E - a,?_⟩
 have:((E - a:Nat):Rat) = (E:Rat) - (a:Rat):=by
  have:((E - a + a:Nat):Rat) = (E:Rat):=by rw [Nat.sub_add_cancel hle]
  push_cast at this;grind
 rw [this];grind
theorem FrQ.le {E:Nat} {q:Rat} (h:FrQ E q) (hE:E ≠ 0) (h1:q ≤ 1):∃ a,a ≤ E∧q = (a:Rat) / (E:Rat):=by
 obtain ⟨a,rfl⟩:=h
 refine ⟨a,?_,rfl⟩
 have h2:(0:Rat) < (E:Rat):=by exact_mod_cast Nat.pos_of_ne_zero hE
 have:=div_le1 h2 h1
 exact_mod_cast this
theorem pow_nonnegR {q:Rat} (h:0 ≤ q):∀ i:Nat,0 ≤ q ^ i
 | 0=>by rw [Rat.pow_zero];decide
 | i + 1=>by rw [Rat.pow_succ];exact Rat.mul_nonneg (pow_nonnegR h i) h
theorem pow_leR {q:Rat} (h:0 ≤ q) (h1:q ≤ 1):∀ i:Nat,q ^ i ≤ 1
 | 0=>by rw [Rat.pow_zero];exact Rat.le_refl
 | i + 1=>by
  rw [Rat.pow_succ]
  have:=Rat.mul_le_mul_of_nonneg_right (pow_leR h h1 i) h
  grind
/-! Chances. -/
structure Ch01 (F:Nat) (p:Rat):Prop where
 fr:FrQ F p
 le:p ≤ 1
 nz:F ≠ 0
theorem shar_nonneg {F:Nat} {p:Rat} (h:Ch01 F p) (m s:Nat):0 ≤ shar p m s:=by
 unfold shar
 have h1:=h.le
 exact Rat.mul_nonneg (Rat.mul_nonneg (natR_nonneg _) (pow_nonnegR h.fr.nonneg _)) (pow_nonnegR (by grind) _)
theorem le_sR {α:Type} {f:α→Rat}:∀ {l:List α} {a:α},(∀ x ∈ l,0 ≤ f x)→a ∈ l→f a ≤ sR f l
 | b :: l,a,h,hm=>by
  have h1:=h b (by simp)
  have h2:=sR_nonneg (l:=l) fun x hx=>h x (by simp [hx])
  simp only [sR]
  rcases List.mem_cons.1 hm with rfl | hm
  ·grind
  ·have:=le_sR (l:=l) (fun x hx=>h x (by simp [hx])) hm
   grind
theorem shar_sum (p:Rat) (m:Nat):sR (fun s=>shar p m s) (List.range (m + 1)) = 1:=by
 have:=bsum_shar p m fun _=>1
 rw [sR_congr (g:=fun s=>shar p m s) fun s _=>Rat.mul_one _] at this
 rw [this,bsum_congr (g:=fun a=>p ^ a * (1 - p) ^ (m - a)) fun a _=>Rat.mul_one _,bsum_pow,show p + (1 - p) = 1 by grind,one_powR]
theorem shar_le {F:Nat} {p:Rat} (h:Ch01 F p) {m s:Nat} (hs:s ≤ m):shar p m s ≤ 1:=by
 rw [← shar_sum p m]
 exact le_sR (fun x _=>shar_nonneg h m x) (List.mem_range.2 (by omega))
theorem shar_fr {F:Nat} {p:Rat} (h:Ch01 F p) {m s n:Nat} (hs:s ≤ m) (hm:m ≤ n):FrQ (F ^ n) (shar p m s):=by
 have h1:=((FrQ.nat (chs m s)).mul (h.fr.pow s)).mul ((h.fr.lack h.nz h.le).pow (m - s))
 rw [Nat.one_mul,← Nat.pow_add,show s + (m - s) = m by omega] at h1
 have h2:=h1.up (F ^ (n - m)) (Nat.ne_of_gt (Nat.pow_pos (Nat.pos_of_ne_zero h.nz)))
 rw [← Nat.pow_add,show m + (n - m) = n by omega] at h2
 exact h2
/-! Levels. -/
structure Lv (n E:Nat) (l:List Rat):Prop where
 len:l.length = (n + 1) * (n + 1)
 fr:∀ i,i < (n + 1) * (n + 1)→FrQ E (l.getD i 0)
def tot (n:Nat) (l:List Rat):Rat:=dot n (fun _ _=>1) l
theorem tot_eq (n:Nat) (l:List Rat):tot n l = sR (fun i=>l.getD i 0) (List.range ((n + 1) * (n + 1))):=sR_congr fun i _=>by unfold dotF;exact Rat.mul_one _
theorem Lv.le_tot {n E:Nat} {l:List Rat} (h:Lv n E l) {i:Nat} (hi:i < (n + 1) * (n + 1)):l.getD i 0 ≤ tot n l:=by
 rw [tot_eq]
 exact le_sR (f:=fun i=>l.getD i 0) (fun x hx=>(h.fr x (List.mem_range.1 hx)).nonneg) (List.mem_range.2 hi)
theorem Lv.set {n E:Nat} {l:List Rat} (h:Lv n E l) {j:Nat} (hj:j < (n + 1) * (n + 1)) {x:Rat} (hx:FrQ E x):Lv n E (l.set j x):=
 ⟨by rw [List.length_set,h.len],fun i hi=>by
  rw [getD_setR _ _ _ _ (by rw [h.len];exact hj)]
  split
  ·exact hx
  ·exact h.fr i hi⟩
theorem Lv.add {n E:Nat} {l:List Rat} (h:Lv n E l) {j:Nat} (hj:j < (n + 1) * (n + 1)) {x:Rat} (hx:FrQ E x):Lv n E (addAt l j x):=h.set hj ((h.fr j hj).add hx)
theorem Lv.zero (n E:Nat):Lv n E (List.replicate ((n + 1) * (n + 1)) 0):=⟨by simp,fun i _=>by rw [getD_repl];exact FrQ.zero E⟩
theorem tot_add {n E:Nat} {l:List Rat} (h:Lv n E l) {j:Nat} (hj:j < (n + 1) * (n + 1)) (x:Rat):tot n (addAt l j x) = tot n l + x:=by
 unfold tot;rw [dot_addAt h.len hj,Rat.mul_one]
theorem tot_next {n:Nat} {f g:Rat} {x:List Rat} (hx:Supp n x):tot n (nextR f g n x) = sR (fun i=>if i % (n + 1) = 0 then 0 else x.getD i 0) (List.range ((n + 1) * (n + 1))):=by
 unfold tot
 rw [next_dot hx]
 refine sR_congr fun i _=>?_
 split
 ·rfl
 ·rw [bsum_congr (g:=fun a=>f ^ a * (1 - f) ^ (i / (n + 1) - a)) fun a _=>?_,bsum_pow,show f + (1 - f) = 1 by grind,one_powR,Rat.mul_one]
  rw [bsum_congr (g:=fun b=>(f ^ a * (1 - f) ^ (i / (n + 1) - a)) * (g ^ b * (1 - g) ^ (i % (n + 1) - 1 - b))) fun b _=>Rat.mul_one _,bsum_mul,bsum_pow,show g + (1 - g) = 1 by grind,one_powR,Rat.mul_one]
theorem sR_le {α:Type} {f g:α→Rat}:∀ {l:List α},(∀ x ∈ l,f x ≤ g x)→sR f l ≤ sR g l
 | [],_=>Rat.le_refl
 | a :: l,h=>by
  have h1:=h a (by simp)
  have h2:=sR_le (l:=l) fun x hx=>h x (by simp [hx])
  simp only [sR];grind
theorem tot_next_le {n E:Nat} {f g:Rat} {x:List Rat} (hx:Supp n x) (hl:Lv n E x):tot n (nextR f g n x) ≤ tot n x:=by
 rw [tot_next hx,tot_eq]
 refine sR_le fun i hi=>?_
 split
 ·exact (hl.fr i (List.mem_range.1 hi)).nonneg
 ·exact Rat.le_refl
theorem tot_first (p:Rat) (n:Nat):tot n (firstR p n) = 1:=by
 unfold tot
 rw [first_dot,bsum_congr (g:=fun r=>p ^ r * (1 - p) ^ (n - r)) fun r _=>Rat.mul_one _,bsum_pow,show p + (1 - p) = 1 by grind,one_powR]
theorem Lv.first {F:Nat} {p:Rat} (h:Ch01 F p) (n:Nat):Lv n (F ^ n) (firstR p n):=by
 unfold firstR
 refine foldl_inv (Lv n (F ^ n)) (fun r hr l hl=>?_) (Lv.zero n _)
 have hr:=List.mem_range.1 hr
 exact hl.set (place_lt (by omega) (by omega)) (shar_fr h (by omega) (by omega))
/-! The step, as far as it has come. -/
def outN (n:Nat) (f g:Rat) (x:List Rat) (i:Nat):List Rat:=
 (List.range i).foldl (fun l i=>if i % (n + 1) = 0∨x.getD i 0 = 0 then l else inR n f g (x.getD i 0) (i / (n + 1)) (i % (n + 1)) l) (List.replicate ((n + 1) * (n + 1)) 0)
def outA (n:Nat) (f g y:Rat) (c r:Nat) (l:List Rat) (a:Nat):List Rat:=
 (List.range a).foldl (fun l a=>if shar f c a = 0 then l else (List.range r).foldl (fun l b=>addAt l ((c - a) * (n + 1) + (r - 1 - b + a)) (y * shar f c a * shar g (r - 1) b)) l) l
def outB (n:Nat) (f g y:Rat) (c r a:Nat) (l:List Rat) (b:Nat):List Rat:=
 (List.range b).foldl (fun l b=>addAt l ((c - a) * (n + 1) + (r - 1 - b + a)) (y * shar f c a * shar g (r - 1) b)) l
theorem outN_all (n:Nat) (f g:Rat) (x:List Rat):outN n f g x ((n + 1) * (n + 1)) = nextR f g n x:=rfl
theorem outN_zero (n:Nat) (f g:Rat) (x:List Rat):outN n f g x 0 = List.replicate ((n + 1) * (n + 1)) 0:=rfl
theorem outN_skip {n:Nat} {f g:Rat} {x:List Rat} {i:Nat} (h:i % (n + 1) = 0∨x.getD i 0 = 0):outN n f g x (i + 1) = outN n f g x i:=by
 unfold outN;rw [List.range_succ,List.foldl_append,List.foldl_cons,List.foldl_nil,if_pos h]
theorem outN_step {n:Nat} {f g:Rat} {x:List Rat} {i:Nat} (h:¬ (i % (n + 1) = 0∨x.getD i 0 = 0)):outN n f g x (i + 1) = outA n f g (x.getD i 0) (i / (n + 1)) (i % (n + 1)) (outN n f g x i) (i / (n + 1) + 1):=by
 unfold outN;rw [List.range_succ,List.foldl_append,List.foldl_cons,List.foldl_nil,if_neg h];rfl
theorem outA_zero (n:Nat) (f g y:Rat) (c r:Nat) (l:List Rat):outA n f g y c r l 0 = l:=rfl
theorem outA_skip {n:Nat} {f g y:Rat} {c r:Nat} {l:List Rat} {a:Nat} (h:shar f c a = 0):outA n f g y c r l (a + 1) = outA n f g y c r l a:=by
 unfold outA;rw [List.range_succ,List.foldl_append,List.foldl_cons,List.foldl_nil,if_pos h]
theorem outA_step {n:Nat} {f g y:Rat} {c r:Nat} {l:List Rat} {a:Nat} (h:¬ shar f c a = 0):outA n f g y c r l (a + 1) = outB n f g y c r a (outA n f g y c r l a) r:=by
 unfold outA;rw [List.range_succ,List.foldl_append,List.foldl_cons,List.foldl_nil,if_neg h];rfl
theorem outB_zero (n:Nat) (f g y:Rat) (c r a:Nat) (l:List Rat):outB n f g y c r a l 0 = l:=rfl
theorem outB_step (n:Nat) (f g y:Rat) (c r a:Nat) (l:List Rat) (b:Nat):outB n f g y c r a l (b + 1) = addAt (outB n f g y c r a l b) ((c - a) * (n + 1) + (r - 1 - b + a)) (y * shar f c a * shar g (r - 1) b):=by
 unfold outB;rw [List.range_succ,List.foldl_append,List.foldl_cons,List.foldl_nil]
structure Gr (n E:Nat) (l m:List Rat):Prop where
 lv:Lv n E m
 le:tot n l ≤ tot n m
theorem Gr.refl {n E:Nat} {l:List Rat} (h:Lv n E l):Gr n E l l:=⟨h,Rat.le_refl⟩
theorem Gr.trans {n E:Nat} {l m k:List Rat} (h:Gr n E l m) (h2:Gr n E m k):Gr n E l k:=⟨h2.lv,Rat.le_trans h.le h2.le⟩
theorem gr_fold {α:Type} {n E:Nat} {st:List Rat→α→List Rat}:∀ {M:List α} {l:List Rat},(∀ a ∈ M,∀ l,Lv n E l→Gr n E l (st l a))→Lv n E l→Gr n E l (M.foldl st l)
 | [],_,_,h=>Gr.refl h
 | a :: M,l,H,h=>(H a (by simp) l h).trans (gr_fold (M:=M) (fun b hb=>H b (by simp [hb])) (H a (by simp) l h).lv)
theorem gr_range {n E:Nat} {st:List Rat→Nat→List Rat} {l:List Rat} {m m':Nat} (hm:m ≤ m') (H:∀ a,a < m'→∀ l,Lv n E l→Gr n E l (st l a)) (h:Lv n E l):Gr n E ((List.range m).foldl st l) ((List.range m').foldl st l):=by
 obtain ⟨q,rfl⟩:=Nat.exists_eq_add_of_le hm
 rw [List.range_add,List.foldl_append]
 refine gr_fold (fun a ha l hl=>?_) (gr_fold (fun a ha l hl=>H a (by have:=List.mem_range.1 ha;omega) l hl) h).lv
 obtain ⟨i,hi,rfl⟩:=List.mem_map.1 ha
 exact H _ (by have:=List.mem_range.1 hi;omega) l hl
theorem gr_b {n E F u:Nat} {f y:Rat} (hf:Ch01 F f) (hg:Ch01 u (1 / (u:Rat))) (hy:FrQ E y) {c r a b:Nat} (hcr:c + r ≤ n) (ha:a ≤ c) (hb:b < r) (l:List Rat) (hl:Lv n (E * (F ^ n * u ^ n)) l) :
  Gr n (E * (F ^ n * u ^ n)) l (addAt l ((c - a) * (n + 1) + (r - 1 - b + a)) (y * shar f c a * shar (1 / (u:Rat)) (r - 1) b)):=by
 have hj:=place_lt (n:=n) (q:=c - a) (r:=r - 1 - b + a) (by omega) (by omega)
 have hx:FrQ (E * (F ^ n * u ^ n)) (y * shar f c a * shar (1 / (u:Rat)) (r - 1) b):=by
  rw [← Nat.mul_assoc]
  exact (hy.mul (shar_fr hf ha (by omega))).mul (shar_fr hg (by omega) (by omega))
 refine ⟨hl.add hj hx,?_⟩
 rw [tot_add hl hj]
 have:=hx.nonneg
 grind
theorem gr_B {n E F u:Nat} {f y:Rat} (hf:Ch01 F f) (hg:Ch01 u (1 / (u:Rat))) (hy:FrQ E y) {c r a b b':Nat} (hcr:c + r ≤ n) (ha:a ≤ c) (hbb:b ≤ b') (hb:b' ≤ r) {l:List Rat} (hl:Lv n (E * (F ^ n * u ^ n)) l) :
  Gr n (E * (F ^ n * u ^ n)) (outB n f (1 / (u:Rat)) y c r a l b) (outB n f (1 / (u:Rat)) y c r a l b'):=
 gr_range hbb (fun b hb' l hl=>gr_b hf hg hy hcr ha (by omega) l hl) hl
theorem gr_a {n E F u:Nat} {f y:Rat} (hf:Ch01 F f) (hg:Ch01 u (1 / (u:Rat))) (hy:FrQ E y) {c r a:Nat} (hcr:c + r ≤ n) (ha:a ≤ c) (l:List Rat) (hl:Lv n (E * (F ^ n * u ^ n)) l) :
  Gr n (E * (F ^ n * u ^ n)) l (if shar f c a = 0 then l else (List.range r).foldl (fun l b=>addAt l ((c - a) * (n + 1) + (r - 1 - b + a)) (y * shar f c a * shar (1 / (u:Rat)) (r - 1) b)) l):=by
 split
 ·exact Gr.refl hl
 ·exact gr_B hf hg hy hcr ha (Nat.zero_le r) (Nat.le_refl _) hl
theorem gr_A {n E F u:Nat} {f y:Rat} (hf:Ch01 F f) (hg:Ch01 u (1 / (u:Rat))) (hy:FrQ E y) {c r a a':Nat} (hcr:c + r ≤ n) (haa:a ≤ a') (ha:a' ≤ c + 1) {l:List Rat} (hl:Lv n (E * (F ^ n * u ^ n)) l) :
  Gr n (E * (F ^ n * u ^ n)) (outA n f (1 / (u:Rat)) y c r l a) (outA n f (1 / (u:Rat)) y c r l a'):=
 gr_range haa (fun a ha' l hl=>gr_a hf hg hy hcr (by omega) l hl) hl
theorem gr_n {n E F u:Nat} {f:Rat} {x:List Rat} (hf:Ch01 F f) (hg:Ch01 u (1 / (u:Rat))) (hs:Supp n x) (hx:Lv n E x) {i:Nat} (hi:i < (n + 1) * (n + 1)) (l:List Rat) (hl:Lv n (E * (F ^ n * u ^ n)) l) :
  Gr n (E * (F ^ n * u ^ n)) l (if i % (n + 1) = 0∨x.getD i 0 = 0 then l else inR n f (1 / (u:Rat)) (x.getD i 0) (i / (n + 1)) (i % (n + 1)) l):=by
 split
 ·exact Gr.refl hl
 ·rename_i e
  have hcr:i / (n + 1) + i % (n + 1) ≤ n:=by
   rcases Nat.lt_or_ge n (i / (n + 1) + i % (n + 1)) with h1 | h1
   ·exact absurd (.inr (hs.z i hi h1)) e
   ·exact h1
  exact gr_A hf hg (hx.fr i hi) hcr (Nat.zero_le _) (Nat.le_refl _) hl
theorem gr_N {n E F u:Nat} {f:Rat} {x:List Rat} (hf:Ch01 F f) (hg:Ch01 u (1 / (u:Rat))) (hs:Supp n x) (hx:Lv n E x) {i i':Nat} (hii:i ≤ i') (hi:i' ≤ (n + 1) * (n + 1)) :
  Gr n (E * (F ^ n * u ^ n)) (outN n f (1 / (u:Rat)) x i) (outN n f (1 / (u:Rat)) x i'):=
 gr_range hii (fun i hi' l hl=>gr_n hf hg hs hx (by omega) l hl) (Lv.zero n _)
theorem out_ok {n E F u:Nat} {f:Rat} {x:List Rat} (hf:Ch01 F f) (hg:Ch01 u (1 / (u:Rat))) (hs:Supp n x) (hx:Lv n E x) (ht:tot n x ≤ 1) {i:Nat} (hi:i ≤ (n + 1) * (n + 1)) :
  Lv n (E * (F ^ n * u ^ n)) (outN n f (1 / (u:Rat)) x i)∧tot n (outN n f (1 / (u:Rat)) x i) ≤ 1:=by
 refine ⟨(gr_N hf hg hs hx (Nat.zero_le i) hi).lv,?_⟩
 have h1:=(gr_N hf hg hs hx hi (Nat.le_refl _)).le
 rw [outN_all] at h1
 exact Rat.le_trans h1 (Rat.le_trans (tot_next_le hs hx) ht)
theorem out_okA {n E F u:Nat} {f:Rat} {x:List Rat} (hf:Ch01 F f) (hg:Ch01 u (1 / (u:Rat))) (hs:Supp n x) (hx:Lv n E x) (ht:tot n x ≤ 1) {i:Nat} (hi:i < (n + 1) * (n + 1)) (h:¬ (i % (n + 1) = 0∨x.getD i 0 = 0)) {a:Nat} (ha:a ≤ i / (n + 1) + 1) :
  Lv n (E * (F ^ n * u ^ n)) (outA n f (1 / (u:Rat)) (x.getD i 0) (i / (n + 1)) (i % (n + 1)) (outN n f (1 / (u:Rat)) x i) a)∧tot n (outA n f (1 / (u:Rat)) (x.getD i 0) (i / (n + 1)) (i % (n + 1)) (outN n f (1 / (u:Rat)) x i) a) ≤ 1:=by
 have hcr:i / (n + 1) + i % (n + 1) ≤ n:=by
  rcases Nat.lt_or_ge n (i / (n + 1) + i % (n + 1)) with h1 | h1
  ·exact absurd (.inr (hs.z i hi h1)) h
  ·exact h1
 have h0:=(out_ok hf hg hs hx ht (i:=i) (by omega)).1
 refine ⟨(gr_A hf hg (hx.fr i hi) hcr (Nat.zero_le a) ha h0).lv,?_⟩
 have h1:=(gr_A hf hg (hx.fr i hi) hcr ha (Nat.le_refl _) h0).le
 rw [← outN_step h] at h1
 exact Rat.le_trans h1 (out_ok hf hg hs hx ht (i:=i + 1) (by omega)).2
theorem out_okB {n E F u:Nat} {f:Rat} {x:List Rat} (hf:Ch01 F f) (hg:Ch01 u (1 / (u:Rat))) (hs:Supp n x) (hx:Lv n E x) (ht:tot n x ≤ 1) {i:Nat} (hi:i < (n + 1) * (n + 1)) (h:¬ (i % (n + 1) = 0∨x.getD i 0 = 0)) {a:Nat} (ha:a ≤ i / (n + 1)) (h2:¬ shar f (i / (n + 1)) a = 0) {b:Nat} (hb:b ≤ i % (n + 1)) :
  Lv n (E * (F ^ n * u ^ n)) (outB n f (1 / (u:Rat)) (x.getD i 0) (i / (n + 1)) (i % (n + 1)) a (outA n f (1 / (u:Rat)) (x.getD i 0) (i / (n + 1)) (i % (n + 1)) (outN n f (1 / (u:Rat)) x i) a) b) ∧
  tot n (outB n f (1 / (u:Rat)) (x.getD i 0) (i / (n + 1)) (i % (n + 1)) a (outA n f (1 / (u:Rat)) (x.getD i 0) (i / (n + 1)) (i % (n + 1)) (outN n f (1 / (u:Rat)) x i) a) b) ≤ 1:=by
 have hcr:i / (n + 1) + i % (n + 1) ≤ n:=by
  rcases Nat.lt_or_ge n (i / (n + 1) + i % (n + 1)) with h1 | h1
  ·exact absurd (.inr (hs.z i hi h1)) h
  ·exact h1
 have h0:=(out_okA hf hg hs hx ht hi h (a:=a) (by omega)).1
 refine ⟨(gr_B hf hg (hx.fr i hi) hcr ha (Nat.zero_le b) hb h0).lv,?_⟩
 have h1:=(gr_B hf hg (hx.fr i hi) hcr ha hb (Nat.le_refl _) h0).le
 rw [← outA_step h2] at h1
 exact Rat.le_trans h1 (out_okA hf hg hs hx ht hi h (a:=a + 1) (by omega)).2
theorem one_over {u:Nat} (hu:u ≠ 0):Ch01 u (1 / (u:Rat)):=by
 refine ⟨⟨1,rfl⟩,?_,hu⟩
 have h2:(0:Rat) < (u:Rat):=by exact_mod_cast Nat.pos_of_ne_zero hu
 refine le_div1 h2 ?_
 exact_mod_cast Nat.one_le_iff_ne_zero.2 hu
def lvE (Fp:Nat) (F:Nat→Nat) (n k:Nat):Nat→Nat
 | 0=>Fp ^ n
 | j + 1=>lvE Fp F n k j * (F (k - j) ^ n * (k - j) ^ n)
theorem lv_ok {Fp:Nat} {p:Rat} {F:Nat→Nat} {f:Nat→Rat} {n k:Nat} (hp:Ch01 Fp p) (hf:∀ u,1 ≤ u→u ≤ k→Ch01 (F u) (f u)):∀ j,j ≤ k→Lv n (lvE Fp F n k j) (lvR p f n k j)∧tot n (lvR p f n k j) ≤ 1
 | 0,_=>⟨Lv.first hp n,by rw [lvR,tot_first];exact Rat.le_refl⟩
 | j + 1,h=>by
  obtain ⟨h1,h2⟩:=lv_ok (n:=n) hp hf j (by omega)
  have:=out_ok (hf (k - j) (by omega) (by omega)) (one_over (u:=k - j) (by omega)) (supp_lv p f n k j) h1 h2 (Nat.le_refl _)
  exact this
open Go Go.Proofs Go.RowKit
/-! How large the chances are, of natural weights. -/
theorem FrQ.sum {α:Type} {E:Nat} {f:α→Rat}:∀ {l:List α},(∀ x ∈ l,FrQ E (f x))→FrQ E (sR f l)
 | [],_=>FrQ.zero E
 | a :: l,h=>(h a (by simp)).add (FrQ.sum (l:=l) fun x hx=>h x (by simp [hx]))
def natW (w:Nat→Nat) (D:Nat) (i:Nat):Rat:=(w i:Rat) / (D:Rat)
theorem natW_nonneg (w:Nat→Nat) (D i:Nat):0 ≤ natW w D i:=FrQ.nonneg (E:=D) ⟨_,rfl⟩
def fillN (m d j:Nat):Nat:=if j ≤ d then chs m (d - j) else 0
theorem fillC_nat (m d j:Nat):fillC m d j = (fillN m d j:Rat):=by
 unfold fillC fillN;split
 ·rfl
 ·rfl
def inN (m k:Nat) (w:Nat→Nat) (u j:Nat):Nat:=((List.range m).map fun i=>w i * (chs u j * fillN (k - u) (i + 1) j)).sum
theorem sR_cast' {α:Type} (f:α→Nat):∀ l:List α,(((l.map f).sum:Nat):Rat) = sR (fun x=>(f x:Rat)) l
 | []=>rfl
 | a :: l=>by rw [List.map_cons,List.sum_cons];push_cast;rw [sR_cast' f l];rfl
theorem evI_nat (m k:Nat) (w:Nat→Nat) (D u j:Nat):evI m k (natW w D) u j = (inN m k w u j:Rat) / (D:Rat):=by
 unfold evI inN
 rw [sR_cast',Rat.div_def,Rat.mul_comm,← sR_mul]
 refine sR_congr fun i _=>?_
 unfold natW
 rw [fillC_nat,Rat.div_def];push_cast;grind
theorem evI_fr (m k:Nat) (w:Nat→Nat) (D u j:Nat):FrQ D (evI m k (natW w D) u j):=⟨_,evI_nat m k w D u j⟩
theorem evQ_fr (m k:Nat) (w:Nat→Nat) (D u:Nat):FrQ D (evQ m k (natW w D) u):=by
 rw [evQ_sum];exact FrQ.sum fun j _=>evI_fr m k w D u _
theorem p_ch {m k D:Nat} {w:Nat→Nat} (hD:D ≠ 0) (h1:sR (·.2) (evX m k (natW w D)) = 1):Ch01 D (evI m k (natW w D) k 1):=by
 refine ⟨evI_fr m k w D k 1,?_,hD⟩
 have h2:=ev_lack h1
 have h3:=evQ_nonneg (m:=m) (k:=k) (ω:=natW w D) (fun i _=>natW_nonneg w D i) k
 grind
theorem free_nonneg {m k D:Nat} {w:Nat→Nat} (u:Nat):0 ≤ freeR m k (natW w D) u:=by
 unfold freeR
 split
 ·exact Rat.le_refl
 ·have h1:=(evI_fr m k w D u 2).nonneg
  have h2:=(evQ_fr m k w D u).nonneg
  have inv:∀ x:Rat,0 ≤ x→0 ≤ x⁻¹:=fun x hx=>by
   by_cases e:x = 0
   ·rw [e,Rat.inv_zero];exact Rat.le_refl
   ·exact Rat.le_of_lt (Rat.inv_pos.2 (Rat.lt_of_le_of_ne hx (Ne.symm e)))
  rw [Rat.div_def,Rat.div_def]
  exact Rat.mul_nonneg (Rat.mul_nonneg (Rat.mul_nonneg (by decide) (inv _ (natR_nonneg u))) h1) (inv _ h2)
theorem free_fr {m k D:Nat} {w:Nat→Nat} (hD:D ≠ 0) (h1:sR (·.2) (evX m k (natW w D)) = 1) {u:Nat} (h0:1 ≤ u) (hu:u ≤ k):∃ E,E ≠ 0∧E ≤ u * D∧Ch01 E (freeR m k (natW w D) u):=by
 have hω:∀ i,i < m→0 ≤ natW w D i:=fun i _=>natW_nonneg w D i
 have hle:freeR m k (natW w D) u ≤ 1:=by
  obtain ⟨v,rfl⟩ : ∃ v,u = v + 1:=⟨u - 1,by omega⟩
  by_cases e:evQ m k (natW w D) (v + 1) = 0
  ·unfold freeR;rw [if_pos e];decide
  ·have h2:=free_two (k:=k) hω (u:=v) (by omega)
   have h3:=evQ_nonneg (k:=k) hω v
   have h4:=evQ_nonneg (k:=k) hω (v + 1)
   rcases (Rat.le_total:freeR m k (natW w D) (v + 1) ≤ 1∨_) with h | h
   ·exact h
   ·have h5:0 < evQ m k (natW w D) (v + 1):=Rat.lt_of_le_of_ne h4 (Ne.symm e)
    have h6:0 ≤ evQ m k (natW w D) (v + 1) * (freeR m k (natW w D) (v + 1) - 1):=Rat.mul_nonneg h4 (by grind)
    have h7:evQ m k (natW w D) (v + 1) * (1 - freeR m k (natW w D) (v + 1)) = 0:=by grind
    have h8:1 - freeR m k (natW w D) (v + 1) = 0:=(Rat.mul_eq_zero.1 h7).resolve_left e
    grind
 by_cases e:evQ m k (natW w D) u = 0
 ·refine ⟨1,Nat.one_ne_zero,?_,?_,hle,Nat.one_ne_zero⟩
  ·exact Nat.mul_pos h0 (Nat.pos_of_ne_zero hD)
  ·unfold freeR;rw [if_pos e];exact FrQ.zero 1
 ·obtain ⟨b,hb,hq⟩:=(evQ_fr m k w D u).le hD (evQ_le hω h1 hu)
  obtain ⟨a,ha⟩:=evI_fr m k w D u 2
  have hb0:b ≠ 0:=fun h=>e (by rw [hq,h,show ((0:Nat):Rat) = 0 from rfl];grind)
  have hn:u * b ≠ 0:=Nat.mul_ne_zero (by omega) hb0
  refine ⟨u * b,hn,Nat.mul_le_mul_left u hb,⟨2 * a,?_⟩,hle,hn⟩
  unfold freeR
  rw [if_neg e,hq,ha]
  have z1:=nz hb0
  have z2:=nz hD
  have z3:=nz (show u ≠ 0 by omega)
  push_cast
  grind
theorem den_le {E:Nat} {q:Rat} (h:FrQ E q) (hE:E ≠ 0):q.den ≤ E:=by
 obtain ⟨a,rfl⟩:=h
 have:(a:Rat) / (E:Rat) = mkRat (a:Int) E:=(Rat.mkRat_eq_div _ _).symm
 rw [this,Rat.mkRat_def,dif_neg hE,Rat.normalize_eq]
 exact Nat.div_le_self _ _
theorem free_ch {m k D:Nat} {w:Nat→Nat} (hD:D ≠ 0) (h1:sR (·.2) (evX m k (natW w D)) = 1) {u:Nat} (h0:1 ≤ u) (hu:u ≤ k):Ch01 (freeR m k (natW w D) u).den (freeR m k (natW w D) u)∧(freeR m k (natW w D) u).den ≤ u * D:=by
 obtain ⟨E,hE,hE2,hc⟩:=free_fr hD h1 h0 hu
 exact ⟨⟨FrQ.self _ (free_nonneg u),hc.le,(freeR m k (natW w D) u).den_nz⟩,Nat.le_trans (den_le hc.fr hE) hE2⟩
theorem lvE_le {D n k B:Nat} {F:Nat→Nat} (hF:∀ u,1 ≤ u→u ≤ k→F u ≤ B) (hk:k ≤ B) (hD:D ≤ B) (hB:1 ≤ B):∀ j,j ≤ k→lvE D F n k j ≤ B ^ (n + 2 * n * j)
 | 0,_=>by rw [lvE,Nat.mul_zero,Nat.add_zero];exact Nat.pow_le_pow_left hD n
 | j + 1,h=>by
  rw [lvE]
  have h1:=lvE_le (n:=n) hF hk hD hB j (by omega)
  have h2:F (k - j) ^ n ≤ B ^ n:=Nat.pow_le_pow_left (hF _ (by omega) (by omega)) n
  have h3:(k - j) ^ n ≤ B ^ n:=Nat.pow_le_pow_left (by omega) n
  rw [show n + 2 * n * (j + 1) = n + 2 * n * j + (n + n) by rw [Nat.mul_succ];omega,Nat.pow_add B (n + 2 * n * j),Nat.pow_add B n n]
  exact Nat.mul_le_mul h1 (Nat.mul_le_mul h2 h3)
theorem lvE_pos {D n k:Nat} {F:Nat→Nat} (hD:D ≠ 0) (hF:∀ u,1 ≤ u→u ≤ k→F u ≠ 0):∀ j,j ≤ k→lvE D F n k j ≠ 0
 | 0,_=>Nat.ne_of_gt (Nat.pow_pos (Nat.pos_of_ne_zero hD))
 | j + 1,h=>Nat.mul_ne_zero (lvE_pos hD hF j (by omega)) (Nat.mul_ne_zero (Nat.ne_of_gt (Nat.pow_pos (Nat.pos_of_ne_zero (hF _ (by omega) (by omega))))) (Nat.ne_of_gt (Nat.pow_pos (by omega))))
open Go Go.Proofs Go.RowKit
def unkS (ls:List (List Int)) (U:List Int):List Int:=U.filter fun s=>!(ls.any fun l=>l.contains s && l.all fun x=>x == s || !U.contains x)
def unkC (ls:List (List Int)):Nat→List Int→List Int
 | 0,U=>U
 | n + 1,U=>unkC ls n (unkS ls U)
def failC (k:Int) (ls:List (List Int)):Bool:=decide (stopE k ls = 0) && !((belowI k).filter fun s=>(unkC ls k.toNat (belowI k)).contains s).isEmpty
open Go
def shw (all:Int) (u:AlS) (c j:Nat):Int:=
 if (c:Int) ∈ u.B ++ u.A then (if c = j then u.rest.getD c 0 else 0) else ((if c = j then u.cut.getD c 0 else 0) + (if u.oth.getD c 0 = j then all - u.cut.getD c 0 else 0))
structure AlM (t:List Int) (all:Int) (u:AlS):Prop where
 op:∀ c:Nat,c < t.length→(c:Int) ∈ u.B ++ u.A→u.cut.getD c 0 = all∧u.oth.getD c 0 = c
 mass:∀ j:Nat,j < t.length→((List.range t.length).map fun c=>shw all u c j).sum = t.getD j 0 * t.length
open Go Go.Proofs Go.RowKit
def rowS (k:Nat) (l:List Int):List Int:=srt (ordF 0 (upto k) (l.drop 2))
def oneR (t:List Int) (k:Nat):Nat:=fall k k * t.length * t.sum.toNat
def wR (k:Nat) (l:List Int):Nat:=fall (k - (l.length - 2)) (k - (l.length - 2))
abbrev rowsA (t:List Int) (k:Nat):List (List Int):=allL t.sum (alF t).cut (alF t).oth k
def itemR (t:List Int) (k:Nat):List (List Int × Nat):=(rowsA t k).map fun l=>(rowS k l,wR k l)
def massD (W:List (List Int)→Bool) (t:List Int) (k n:Int):Fr3 × Int:=
 if refE t k n = 0 then (if (itemR t k.toNat).length ≤ 4096 then sumW W (itemR t k.toNat) (oneR t k.toNat) n.toNat else (rqn,4)) else (rqn,refE t k n)
structure DwG where
 i:Nat
 v:Value
 ss:List Value
 hs:List (Value × Value)
attribute [local irreducible] Fit pt own ro vw mpc lpt vels rels mow lrc dfr
attribute [local irreducible] lmp lme mit velg relg bnd owl setP szL solE risR chaW oneS wS
end Go.Art
namespace Go.Art
open Go Go.Proofs Go.RowKit
def msk (l:List Int):Nat:=(l.map fun s=>2 ^ s.toNat).sum
def popK (k a:Nat):Nat:=((List.range k).map fun j=>a / 2 ^ j % 2).sum
def rmsk (k:Nat) (l:List Int):Nat:=msk (ordF 0 (upto k) (l.drop 2))
def fct:Nat→Nat
 | 0=>1
 | n + 1=>(n + 1) * fct n
def chkA (k:Nat):Bool:=(List.range (k + 1)).all fun d=>(endsL d k []).all fun js=>(ordF 0 (upto k) js).all (fun s=>decide (0 ≤ s∧s < k)) && Nat.blt (msk (ordF 0 (upto k) js)) (2 ^ k)
def chkB (k:Nat):Bool:=(List.range (2 ^ k)).all fun a=>Nat.ble (popK k a) k && (Nat.beq a 0 || Nat.blt 0 (popK k a)) && (List.range (k + 1)).all fun d=>Nat.beq ((endsL d k []).filter fun js=>Nat.beq (msk (ordF 0 (upto k) js)) a).length (bif Nat.beq d (popK k a) then fct d else 0)
def wtA (k a:Nat) (l:List Int):Nat:=bif Nat.beq (rmsk k l) a then wt k l else 0
def shrM (k a:Nat) (d:Nat):Nat:=if d = popK k a then fct d * (24 / fall k d) else 0
open Go Go.Proofs Go.RowKit
theorem natG_zero (W:List (List Int)→Bool) (L:List (List Int × Nat)) (b:List (List Int)) (m:Nat):natG W L 0 b m = if W b then m else 0:=by rw [natG]
theorem natG_succ (W:List (List Int)→Bool) (L:List (List Int × Nat)) (n:Nat) (b:List (List Int)) (m:Nat):natG W L (n + 1) b m = (L.map fun s=>natG W L n (b ++ [s.1]) (m * s.2)).sum:=by rw [natG]
theorem sum_mulR {α:Type} (f:α→Nat) (c:Nat):∀ l:List α,(l.map fun x=>f x * c).sum = (l.map f).sum * c
 | []=>by simp
 | a :: l=>by rw [List.map_cons,List.sum_cons,List.map_cons,List.sum_cons,sum_mulR f c l,Nat.add_mul]
theorem natG_lin (W:List (List Int)→Bool) (L:List (List Int × Nat)) (c:Nat):∀ n b m,natG W L n b (m * c) = natG W L n b m * c
 | 0,b,m=>by rw [natG_zero,natG_zero];split <;> simp
 | n + 1,b,m=>by
  rw [natG_succ,natG_succ,← sum_mulR]
  refine congrArg List.sum (List.map_congr_left fun s _=>?_)
  rw [Nat.mul_right_comm,natG_lin W L c n]
theorem natG_all {L:List (List Int × Nat)} {D:Nat} (hD:(L.map (·.2)).sum = D):∀ n b m,natG (fun _=>true) L n b m = m * D ^ n
 | 0,b,m=>by rw [natG_zero,if_pos rfl,Nat.pow_zero,Nat.mul_one]
 | n + 1,b,m=>by
  rw [natG_succ]
  have:(L.map fun s=>natG (fun _=>true) L n (b ++ [s.1]) (m * s.2)) = L.map fun s=>s.2 * (m * D ^ n):=List.map_congr_left fun s _=>by rw [natG_all hD n,Nat.mul_assoc,Nat.mul_left_comm]
  rw [this,sum_mulR (fun s:List Int × Nat=>s.2) (m * D ^ n) L,hD,Nat.pow_succ,Nat.mul_comm D,Nat.mul_assoc]
theorem natG_leW {W V:List (List Int)→Bool} (h:∀ b,W b = true→V b = true) (L:List (List Int × Nat)):∀ n b m,natG W L n b m ≤ natG V L n b m
 | 0,b,m=>by
  rw [natG_zero,natG_zero]
  by_cases e:W b = true
  ·rw [if_pos e,if_pos (h b e)];exact Nat.le_refl _
  ·rw [if_neg e];exact Nat.zero_le _
 | n + 1,b,m=>by
  rw [natG_succ,natG_succ]
  have key:∀ l:List (List Int × Nat),(l.map fun s=>natG W L n (b ++ [s.1]) (m * s.2)).sum ≤ (l.map fun s=>natG V L n (b ++ [s.1]) (m * s.2)).sum:=by
   intro l
   induction l with
   | nil=>simp
   | cons a r ih=>simp only [List.map_cons,List.sum_cons];have:=natG_leW h L n (b ++ [a.1]) (m * a.2);omega
  exact key L
theorem itemS_sum {t:List Int} {k:Nat} (hz:solE t k = 0):((itemS t k).map (·.2)).sum = oneS t k:=by
 obtain ⟨z1,z2,z3,z4⟩:=solE_zero hz
 have h1:(itemS t k).map (·.2) = (setP t k t.length).map fun s=>wS t k s.length:=by unfold itemS;rw [List.map_map];rfl
 rw [h1]
 have h2:∀ i,i < t.length→((szL t k i).map fun s=>wS t k s.length).sum = (t.getD i 0).toNat * prodC k t.length:=fun i hi=>by
  unfold szL
  by_cases e:t.getD i 0 = 0
  ·rw [if_pos e,e];simp
  ·rw [if_neg e,sum_const (fun s:List Int=>wS t k s.length) (wS t k (i + 1)) (risR (i + 1) 0 k) (fun s hs=>by rw [(risR_mem _ _ _ _ hs).1]),risR_len]
   unfold wS
   rw [Nat.sub_zero,Nat.add_sub_cancel,Nat.mul_comm,Nat.mul_assoc,prodX_mul (by omega) (by omega)]
 have h3:∀ n,n ≤ t.length→((setP t k n).map fun s=>wS t k s.length).sum = (t.take n).sum.toNat * prodC k t.length:=by
  intro n
  induction n with
  | zero=>intro _;rw [setP_zero];simp
  | succ n ih=>
   intro hn
   rw [setP_succ,List.map_append,List.sum_append,ih (by omega),h2 n (by omega),take_succ' (show n < t.length by omega) 0,List.sum_append,← Nat.add_mul]
   congr 1
   have ha:=(z3 (t.getD n 0) (by rw [List.getD_eq_getElem?_getD,List.getElem?_eq_getElem (by omega)];exact List.getElem_mem (by omega))).1
   have hb:0 ≤ (t.take n).sum:=(sum_bound (t:=t.take n) fun w hw=>z3 w (List.mem_of_mem_take hw)).1
   simp only [List.sum_cons,List.sum_nil,Int.add_zero]
   omega
 rw [h3 t.length (Nat.le_refl _),List.take_length];rfl
open Go Go.Proofs Go.RowKit
theorem tG_same {β:Type} {L M:List (β × Rat)} (H:∀ F:β→Rat,sR (fun s=>s.2 * F s.1) L = sR (fun s=>s.2 * F s.1) M):∀ (n:Nat) (F:List β→Rat),tG L n F = tG M n F
 | 0,F=>rfl
 | n + 1,F=>by
  simp only [tG]
  rw [H fun x=>tG L n fun l=>F (x :: l)]
  exact sR_congr fun s _=>by rw [tG_same H n]
theorem sR_cast {α:Type} (f:α→Nat):∀ l:List α,(((l.map f).sum:Nat):Rat) = sR (fun x=>(f x:Rat)) l
 | []=>rfl
 | a :: l=>by rw [List.map_cons,List.sum_cons];push_cast;rw [sR_cast f l];rfl
abbrev omg (t:List Int) (k:Nat):Nat→Rat:=natW (fun i=>wS t k (i + 1)) (oneS t k)
abbrev tabX (t:List Int) (k:Nat):List (List Int × Rat):=evX t.length k (omg t k)
theorem natG_tG (W:List (List Int)→Bool) (L:List (List Int × Nat)) {D:Nat} (hD:D ≠ 0):∀ n b m,((natG W L n b m:Nat):Rat) = (m:Rat) * (D:Rat) ^ n * tG (L.map fun s=>(s.1,(s.2:Rat) / (D:Rat))) n fun l=>if W (b ++ l) = true then 1 else 0
 | 0,b,m=>by
  rw [natG_zero]
  simp only [tG,List.append_nil,Rat.pow_zero,Rat.mul_one]
  split
  ·rw [Rat.mul_one]
  ·rw [Rat.mul_zero];rfl
 | n + 1,b,m=>by
  rw [natG_succ,sR_cast]
  simp only [tG]
  rw [sR_map,← sR_mul]
  refine sR_congr fun s _=>?_
  rw [natG_tG W L hD n]
  have h0:=nz hD
  simp only [List.append_assoc,List.singleton_append]
  push_cast
  rw [Rat.pow_succ]
  generalize (tG (L.map fun s=>(s.1,(s.2:Rat) / (D:Rat))) n fun l=>if W (b ++ s.1 :: l) = true then 1 else 0) = z
  grind
theorem wS_zero {t:List Int} {k i:Nat} (h:t.getD i 0 = 0):wS t k (i + 1) = 0:=by
 unfold wS;rw [Nat.add_sub_cancel,h];simp
theorem item_ev (t:List Int) (k:Nat) (F:List Int→Rat):sR (fun s=>s.2 * F s.1) ((itemS t k).map fun s=>(s.1,(s.2:Rat) / (oneS t k:Rat))) = sR (fun s=>s.2 * F s.1) (tabX t k):=by
 unfold itemS tabX evX setP
 rw [List.map_map,sR_map,sR_flat,sR_flat]
 refine sR_congr fun i _=>?_
 have hR:sR (fun s:List Int × Rat=>s.2 * F s.1) ((risR (i + 1) 0 k).map fun l=>(l,omg t k i)) = sR (fun l=>omg t k i * F l) (risR (i + 1) 0 k):=sR_map _ _ _
 refine Eq.trans ?_ hR.symm
 by_cases e:t.getD i 0 = 0
 ·rw [if_pos e]
  have h0:omg t k i = 0:=by
   show (wS t k (i + 1):Rat) / (oneS t k:Rat) = 0
   rw [wS_zero e,show ((0:Nat):Rat) = 0 from rfl];grind
  rw [h0]
  exact ((sR_congr fun l _=>Rat.zero_mul _).trans (sR_zero _)).symm
 ·rw [if_neg e]
  refine sR_congr fun l hl=>?_
  show (wS t k l.length:Rat) / (oneS t k:Rat) * F l = omg t k i * F l
  rw [(risR_mem _ _ _ _ hl).1];rfl
theorem omg_nonneg (t:List Int) (k i:Nat):0 ≤ omg t k i:=natW_nonneg _ _ _
theorem tabX_one {t:List Int} {k:Nat} (hz:solE t k = 0):sR (·.2) (tabX t k) = 1:=by
 have h1:=item_ev t k fun _=>1
 have h2:=itemS_sum hz
 have h0:=nz (oneS_pos hz)
 rw [sR_congr (f:=fun s:List Int × Rat=>s.2 * 1) (l:=tabX t k) (g:=(·.2)) fun s _=>Rat.mul_one _] at h1
 rw [← h1,sR_map]
 rw [sR_congr (g:=fun s:List Int × Nat=>(1 / (oneS t k:Rat)) * (s.2:Rat)) fun s _=>by grind,sR_mul,← sR_cast fun s:List Int × Nat=>s.2,h2]
 grind
abbrev pT (t:List Int) (k:Nat):Rat:=evI t.length k (omg t k) k 1
abbrev fT (t:List Int) (k u:Nat):Rat:=freeR t.length k (omg t k) u
abbrev lvT (t:List Int) (k n j:Nat):List Rat:=lvR (pT t k) (fT t k) n k j
def stT (t:List Int) (k n u:Nat):Rat:=stuckR n u (lvT t k n (k - u))
theorem ripple_tab {t:List Int} {k:Nat} (hz:solE t k = 0) (φ:Nat→Rat) (n:Nat):sR (fun u=>φ u * stT t k n u) (List.range (k + 1)) = tG (tabX t k) n fun ls=>φ (largeL k ls).length:=
 ripple_sets φ (fun i _=>omg_nonneg t k i) (tabX_one hz) n
open Go Go.Proofs Go.RowKit
theorem sg_flip (z:Int):sg (!decide (z < 0)) z.natAbs = -z:=by
 unfold sg
 by_cases h:z < 0
 ·rw [decide_eq_true h];simp;omega
 ·rw [decide_eq_false h];simp;omega
theorem sg_same (z:Int):sg (decide (z < 0)) z.natAbs = z:=by
 unfold sg
 by_cases h:z < 0
 ·rw [decide_eq_true h];simp;omega
 ·rw [decide_eq_false h];simp;omega
theorem FB_neg {q:Rat} {B:Nat} (h:FB q B):FB (-q) B:=by
 refine ⟨?_,?_⟩
 ·rw [Rat.neg_num,Int.natAbs_neg];exact h.1
 ·rw [Rat.neg_den];exact h.2
attribute [local irreducible] Fit pt own ro vw mpc lpt vels rels mow lrc dfr
attribute [local irreducible] lmp lme mit velg relg bnd owl
theorem INeg_tr (z:Int) (o:Value) (ho:o.oneCell' = true) (hz:(dg z.natAbs).length ≤ 1099511627776):Tr Tryz.prog 125 [iv z o] [vw o (Us (dg z.natAbs))] [] (IR (-z)):=by
 have hM:=IMake_tr (!decide (z < 0)) o (dg z.natAbs) (Dg_dg _) hz
 rw [nv_dg,sg_flip] at hM
 unfold IR at hM ⊢
 generalize dg z.natAbs = l at *
 generalize dg (-z).natAbs = l2 at *
 show Tr _ _ [.agg #[.bool (decide (z < 0)),o]] _ _ _
 generalize decide (z < 0) = b at *
 generalize decide (-z < 0) = b2 at *
 refine Tr.enter env _ Tryz.func125 (by kernel_rfl) rfl Tryz.ntmps125 rfl (by repeat (first | exact has00 | refine has01 ?_)) fun w0=>?_
 repeat' first|(refine gca ?_;first|(refine ca hM ?_;rintro _ _ ⟨o2,rfl,ho2,rfl⟩))|refine bx fun q=>?_|refine al fun c=>?_|refine srz ?_|(refine wo ?_;first|refine oa ?_|refine ld ?_)|refine sq ?_|refine rg ?_|refine xc ?_|refine nl ?_|refine rt ?_
 exact rca1 (b:=c) (cs:=[.bool b2,o2]) (vs:=[.bool b2,o2]) (T:=33) ⟨o2,rfl,ho2,rfl⟩
theorem IHeld_tr (z:Int) (o:Value) (ho:o.oneCell' = true) (hz:(dg z.natAbs).length ≤ 1099511627776):Tr Tryz.prog 102 [iv z o] [vw o (Us (dg z.natAbs))] [] (IR z):=by
 have hM:=IMake_tr (decide (z < 0)) o (dg z.natAbs) (Dg_dg _) hz
 rw [nv_dg,sg_same] at hM
 unfold IR at hM ⊢
 generalize dg z.natAbs = l at *
 show Tr _ _ [.agg #[.bool (decide (z < 0)),o]] _ _ _
 generalize decide (z < 0) = b at *
 refine Tr.enter env _ Tryz.func102 (by kernel_rfl) rfl Tryz.ntmps102 rfl (by repeat (first | exact has00 | refine has01 ?_)) fun w0=>?_
 repeat' first|(refine gca ?_;first|(refine ca hM ?_;rintro _ _ ⟨o2,rfl,ho2,rfl⟩))|refine bx fun q=>?_|refine al fun c=>?_|refine srz ?_|(refine wo ?_;first|refine oa ?_|refine ld ?_)|refine sq ?_|refine rg ?_|refine xc ?_|refine nl ?_|refine rt ?_
 exact rca1 (b:=c) (cs:=[.bool b,o2]) (vs:=[.bool b,o2]) (T:=33) ⟨o2,rfl,ho2,rfl⟩
theorem ISign_tr (z:Int) (o:Value) (ho:o.oneCell' = true) (hz:(dg z.natAbs).length ≤ 1099511627776):Tr Tryz.prog 54 [iv z o] [vw o (Us (dg z.natAbs))] [] fun u D=>u = I z.sign∧D = []:=by
 have hM:=IHeld_tr z o ho hz
 unfold IR iv at hM
 have hlp:0 < (dg z.natAbs).length ↔ z ≠ 0:=⟨fun h e=>by rw [e,Int.natAbs_zero,dg_zero] at h;simp at h,fun h=>dg_len_pos (by omega)⟩
 have h1:z < 0→z.sign = -1:=Int.sign_eq_neg_one_of_neg
 have h2:0 < z→z.sign = 1:=Int.sign_eq_one_of_pos
 have h3:z = 0→z.sign = 0:=fun h=>by rw [h];rfl
 generalize dg z.natAbs = l at *
 generalize z.sign = s at *
 show Tr _ _ [.agg #[.bool (decide (z < 0)),o]] _ _ _
 have h4:decide (z < 0) = true ↔ z < 0:=decide_eq_true_iff
 generalize decide (z < 0) = b at *
 cases b with
 | true=>
  have h5:=h1 (h4.1 rfl)
  refine Tr.enter env _ Tryz.func54 (by kernel_rfl) rfl Tryz.ntmps54 rfl (by repeat (first | exact has00 | refine has01 ?_)) fun w0=>?_
  repeat' first|(refine gca ?_;first|(refine ca hM ?_;rintro _ _ ⟨o2,rfl,ho2,rfl⟩))|refine bx fun q=>?_|refine lda ?_|refine srz ?_ (hj:=Nat.le_of_ble_eq_true rfl)|(refine wo ?_;first|refine oa ?_|refine ld ?_)|(refine gc ?_;first|refine ct ?_)|refine sq ?_|refine rg ?_|refine xc ?_|refine nl ?_|refine bk ?_|refine rt ?_
  all_goals exact r1 ⟨by rw [h5],rfl⟩
 | false=>
  have h5:¬ z < 0:=fun h=>by have:=h4.2 h;cases this
  by_cases h6:z = 0
  ·have h7:¬ 0 < l.length:=fun h=>hlp.1 h h6
   have h8:=h3 h6
   refine Tr.enter env _ Tryz.func54 (by kernel_rfl) rfl Tryz.ntmps54 rfl (by repeat (first | exact has00 | refine has01 ?_)) fun w0=>?_
   repeat' first|(refine gca ?_;first|(refine ca hM ?_;rintro _ _ ⟨o2,rfl,ho2,rfl⟩))|refine bx fun q=>?_|refine lda ?_|refine srz ?_ (hj:=Nat.le_of_ble_eq_true rfl)|(refine wo ?_;first|(refine ao ?_;first|refine oa ?_)|refine oa ?_|refine ld ?_|refine lnm ?_)|(refine gc ?_;first|refine cf ?_|(refine ci (fun hB=>?_) (fun hB=>?_) <;> try (exfalso;omega)))|refine sq ?_|refine rg ?_|refine xc ?_|refine nl ?_|refine sk ?_|refine bk ?_|refine rt ?_|refine xb ?_
   all_goals exact r1 ⟨by rw [h8],rfl⟩
  ·have h7:=hlp.2 h6
   have h8:=h2 (by omega)
   refine Tr.enter env _ Tryz.func54 (by kernel_rfl) rfl Tryz.ntmps54 rfl (by repeat (first | exact has00 | refine has01 ?_)) fun w0=>?_
   repeat' first|(refine gca ?_;first|(refine ca hM ?_;rintro _ _ ⟨o2,rfl,ho2,rfl⟩))|refine bx fun q=>?_|refine lda ?_|refine srz ?_ (hj:=Nat.le_of_ble_eq_true rfl)|(refine wo ?_;first|(refine ao ?_;first|refine oa ?_)|refine oa ?_|refine ld ?_|refine lnm ?_)|(refine gc ?_;first|refine cf ?_|(refine ci (fun hB=>?_) (fun hB=>?_) <;> try (exfalso;omega)))|refine sq ?_|refine rg ?_|refine xc ?_|refine nl ?_|refine bk ?_|refine rt ?_
   all_goals exact r1 ⟨by rw [h8],rfl⟩
theorem FSub_tr (q r:Rat) (v1 v2 v3 v4:Value) (h1:v1.oneCell' = true) (h2:v2.oneCell' = true) (h3:v3.oneCell' = true) (h4:v4.oneCell' = true) (hq:FB q 8589934592) (hr:FB r 8589934592) :
  Tr Tryz.prog 72 [rv q v1 v2,rv r v3 v4] [vw v1 (Us (dg q.num.natAbs)),vw v2 (Us (dg q.den)),vw v3 (Us (dg r.num.natAbs)),vw v4 (Us (dg r.den))] [] (FQ2 (q - r) 0):=by
 have hC1:=FCheck_tr q v1 v2 h1 h2 (hq.le (by decide))
 have hC2:=FCheck_tr r v3 v4 h3 h4 (hr.le (by decide))
 have hN:=INeg_tr r.num v3 h3 (by have:=hr.1;omega)
 have hS:=fun o ho=>FSum_tr q (-r) v1 v2 o v4 h1 h2 ho h4 hq (FB_neg hr)
 rw [← Rat.sub_eq_add_neg] at hS
 unfold rv at hS hC1 hC2
 simp only [Rat.neg_num,Rat.neg_den] at hS
 unfold IR iv at hN
 unfold FQ at hS
 unfold FQ2
 obtain ⟨p,hp⟩ : ∃ p,p = q - r:=⟨_,rfl⟩
 simp only [← hp] at hS ⊢
 clear hp
 show Tr _ _ [.agg #[.bool (decide (q.num < 0)),v1,v2],.agg #[.bool (decide (r.num < 0)),v3,v4]] _ _ _
 generalize dg (-r.num).natAbs = ln at *
 generalize decide (-r.num < 0) = bn at *
 generalize dg q.num.natAbs = lq at *
 generalize dg q.den = lqd at *
 generalize dg r.num.natAbs = lr at *
 generalize dg r.den = lrd at *
 generalize decide (q.num < 0) = b1 at *
 generalize decide (r.num < 0) = b2 at *
 refine Tr.enter env _ Tryz.func72 (by kernel_rfl) rfl Tryz.ntmps72 rfl (by repeat (first | exact has00 | refine has01 ?_)) fun w0=>?_
 repeat' first|(refine gca ?_;first|(refine ca hC1 ?_;rintro _ _ ⟨rfl,rfl⟩)|(refine ca hC2 ?_;rintro _ _ ⟨rfl,rfl⟩))|refine bx fun q=>?_|refine al fun c=>?_|refine lda ?_|(refine wo ?_;first|(refine ao ?_;first|refine oa ?_)|refine oa ?_|refine gy ?_)|(refine gc ?_;first|refine cf ?_)|refine sq ?_|refine rg ?_|refine xc ?_|refine nl ?_|refine sk ?_
 rename_i q1
 refine rs (fun w=>w.heap[q1]? = some (.cells [.bool b1,v1,v2].toArray TRt (0,0))∧w.heap[q]? = some (.cells [.bool b2,v3,v4].toArray TRt (0,0))) ?_ (fun w hw=>⟨pt_at memA hw,pt_at memA hw⟩)
 refine tk 0 (v:=.agg #[.bool b1,v1,v2]) (fun w h=>R_loadA (E:=env) (vs:=[.bool b1,v1,v2]) rfl rfl rfl rfl h.1 rfl rfl) ?_
 refine tka 1 ?_
 refine tk 2 (v:=.agg #[.bool b2,v3]) (fun w h=>R_loadA (E:=env) (vs:=[.bool b2,v3]) rfl rfl rfl rfl h.2 rfl rfl) ?_
 refine tka 4 ?_
 refine tkl 5 (cs:=[.bool b2,v3,v4]) (fun w h=>h.2) ?_
 refine t1 3 ?_
 refine ca hN ?_
 rintro _ _ ⟨o2,rfl,ho2,rfl⟩
 refine nl ?_
 refine te (fun w hw=>⟨pt_at memA hw,pt_at memA hw⟩) ?_
 refine t1 6 ?_
 refine bdm ?_
 refine nl ?_
 refine te (fun w hw=>⟨pt_at memA hw,pt_at memA hw⟩) ?_
 refine t1 7 ?_
 refine ca (hS o2 ho2) ?_
 rintro _ _ ⟨vn,vd,rfl,hvn,hvd,rfl⟩
 refine nl ?_
 refine te (fun w hw=>⟨pt_at memA hw,pt_at memA hw⟩) ?_
 refine t1 8 ?_
 refine srz ?_
 refine nl ?_
 refine te (fun w hw=>⟨pt_at memA hw,pt_at memA hw⟩) ?_
 refine tka 9 ?_
 refine t0 ?_
 repeat' first|refine xc ?_|refine rt ?_
 exact rca (cs:=[.bool (decide (p.num < 0)),vn,vd]) (vs:=[.bool (decide (p.num < 0)),vn,vd]) (T:=TRt) ⟨vn,vd,rfl,hvn,hvd,rfl⟩
theorem FCmp_tr (q r:Rat) (v1 v2 v3 v4:Value) (h1:v1.oneCell' = true) (h2:v2.oneCell' = true) (h3:v3.oneCell' = true) (h4:v4.oneCell' = true) (hq:FB q 8589934592) (hr:FB r 8589934592) (hl:(dg (q - r).num.natAbs).length ≤ 1099511627776) :
  Tr Tryz.prog 33 [rv q v1 v2,rv r v3 v4] [vw v1 (Us (dg q.num.natAbs)),vw v2 (Us (dg q.den)),vw v3 (Us (dg r.num.natAbs)),vw v4 (Us (dg r.den))] [] fun u D=>u = tup2 (I (q - r).num.sign) (I 0)∧D = []:=by
 have hS:=FSub_tr q r v1 v2 v3 v4 h1 h2 h3 h4 hq hr
 obtain ⟨p,hp⟩ : ∃ p,p = q - r:=⟨_,rfl⟩
 rw [← hp] at hS hl ⊢
 clear hp
 have hI:=fun o ho=>ISign_tr p.num o ho hl
 unfold iv at hI
 unfold FQ2 at hS
 refine Tr.enter env _ Tryz.func33 (by kernel_rfl) rfl Tryz.ntmps33 rfl (by repeat (first | exact has00 | refine has01 ?_)) fun w0=>?_
 repeat' first|(refine gca ?_;first|(refine ca hS ?_;rintro _ _ ⟨vn,vd,rfl,hvn,hvd,rfl⟩)|(refine ca (hI vn hvn) ?_;rintro _ _ ⟨rfl,rfl⟩))|refine bx fun q=>?_|refine al fun c=>?_|refine lda ?_|refine lda (vs:=[.bool (decide (p.num < 0)),vn]) ?_|refine srz ?_|(refine wo ?_;first|refine oa ?_)|refine sq ?_|refine rg ?_|refine xc ?_|refine nl ?_|refine rt ?_
 exact r2 ⟨rfl,rfl⟩
end Go.Art
namespace Go.Art
open Go Go.Proofs Go.RowKit
theorem inv_parts {r:Rat} (h:0 < r.num):(r⁻¹).num = r.den∧(r⁻¹).den = r.num.natAbs:=by
 refine ⟨?_,?_⟩
 ·rw [Rat.num_inv,Int.sign_eq_one_of_pos h,Int.one_mul]
 ·rw [Rat.den_inv,if_neg (by omega)]
theorem FB_inv {r:Rat} {B:Nat} (h:0 < r.num) (k:FB r B):FB r⁻¹ B:=by
 obtain ⟨e1,e2⟩:=inv_parts h
 refine ⟨?_,?_⟩
 ·rw [e1,Int.natAbs_natCast];exact k.2
 ·rw [e2];exact k.1
attribute [local irreducible] Fit pt own ro vw mpc lpt vels rels mow lrc dfr
attribute [local irreducible] lmp lme mit velg relg bnd owl
theorem FOver_tr (b:Bool) (v3 v4:Value) (h3:v3.oneCell' = true) (h4:v4.oneCell' = true):Tr Tryz.prog 267 [.agg #[.bool b,v3,v4]] [] [] fun u D=>u = .agg #[.bool b,v4,v3]∧D = []:=by
 refine Tr.enter env _ Tryz.func267 (by kernel_rfl) rfl Tryz.ntmps267 rfl (by repeat (first | exact has00 | refine has01 ?_)) fun w0=>?_
 repeat' first|refine bx fun q=>?_|refine al fun c=>?_|refine bdm ?_|refine srz ?_|(refine wo ?_;first|refine oa ?_|refine ld ?_)|refine sq ?_|refine rg ?_|refine xc ?_|refine nl ?_|refine rt ?_
 exact rca1 (cs:=[.bool b,v4,v3]) (vs:=[.bool b,v4,v3]) (T:=TRt) ⟨rfl,rfl⟩
theorem FDiv_tr (q r:Rat) (v1 v2 v3 v4:Value) (h1:v1.oneCell' = true) (h2:v2.oneCell' = true) (h3:v3.oneCell' = true) (h4:v4.oneCell' = true) (hq:FB q 8589934592) (hr:FB r 8589934592) (hp:0 < r.num) :
  Tr Tryz.prog 218 [rv q v1 v2,rv r v3 v4] [vw v1 (Us (dg q.num.natAbs)),vw v2 (Us (dg q.den)),vw v3 (Us (dg r.num.natAbs)),vw v4 (Us (dg r.den))] [] (FQ2 (q / r) 0):=by
 have hC1:=FCheck_tr q v1 v2 h1 h2 (hq.le (by decide))
 have hC2:=FCheck_tr r v3 v4 h3 h4 (hr.le (by decide))
 have hO:=FOver_tr (decide (r.num < 0)) v3 v4 h3 h4
 have hP:=FProd_tr q r⁻¹ v1 v2 v4 v3 h1 h2 h4 h3 hq (FB_inv hp hr)
 obtain ⟨e1,e2⟩:=inv_parts hp
 have hl:0 < (dg r.num.natAbs).length:=dg_len_pos (by omega)
 rw [← Rat.div_def] at hP
 unfold rv at hP hC1 hC2
 rw [e1,e2,Int.natAbs_natCast,show decide (((r.den:Nat):Int) < 0) = decide (r.num < 0) by rw [decide_eq_false (by omega),decide_eq_false (by omega)]] at hP
 unfold FQ at hP
 unfold FQ2
 obtain ⟨p,hp'⟩ : ∃ p,p = q / r:=⟨_,rfl⟩
 simp only [← hp'] at hP ⊢
 clear hp' hp e1 e2
 show Tr _ _ [.agg #[.bool (decide (q.num < 0)),v1,v2],.agg #[.bool (decide (r.num < 0)),v3,v4]] _ _ _
 generalize dg q.num.natAbs = lq at *
 generalize dg q.den = lqd at *
 generalize dg r.num.natAbs = lr at *
 generalize dg r.den = lrd at *
 generalize decide (q.num < 0) = b1 at *
 generalize decide (r.num < 0) = b2 at *
 refine Tr.enter env _ Tryz.func218 (by kernel_rfl) rfl Tryz.ntmps218 rfl (by repeat (first | exact has00 | refine has01 ?_)) fun w0=>?_
 repeat' first|(refine gca ?_;first|(refine ca hC1 ?_;rintro _ _ ⟨rfl,rfl⟩)|(refine ca hC2 ?_;rintro _ _ ⟨rfl,rfl⟩))|refine bx fun q=>?_|refine al fun c=>?_|refine lda ?_|(refine wo ?_;first|(refine ao ?_;first|refine oa ?_)|refine oa ?_|refine ld ?_|refine lnm ?_|refine gy ?_)|(refine gc ?_;first|refine cf ?_|(refine ci (fun hB=>?_) (fun hB=>?_) <;> try (exfalso;omega)))|refine sq ?_|refine rg ?_|refine xc ?_|refine nl ?_|refine sk ?_|refine bk ?_|refine xb ?_
 rename_i q1
 refine rs (fun w=>w.heap[q1]? = some (.cells [.bool b1,v1,v2].toArray TRt (0,0))∧w.heap[q]? = some (.cells [.bool b2,v3,v4].toArray TRt (0,0))) ?_ (fun w hw=>⟨pt_at memA hw,pt_at memA hw⟩)
 refine tk 0 (v:=.agg #[.bool b1,v1,v2]) (fun w h=>R_loadA (E:=env) (vs:=[.bool b1,v1,v2]) rfl rfl rfl rfl h.1 rfl rfl) ?_
 refine tk 1 (v:=.agg #[.bool b2,v3,v4]) (fun w h=>R_loadA (E:=env) (vs:=[.bool b2,v3,v4]) rfl rfl rfl rfl h.2 rfl rfl) ?_
 refine t1 2 ?_
 refine ca hO ?_
 rintro _ _ ⟨rfl,rfl⟩
 refine nl ?_
 refine te (fun w hw=>⟨pt_at memA hw,pt_at memA hw⟩) ?_
 refine t1 3 ?_
 refine ca hP ?_
 rintro _ _ ⟨vn,vd,rfl,hvn,hvd,rfl⟩
 refine nl ?_
 refine te (fun w hw=>⟨pt_at memA hw,pt_at memA hw⟩) ?_
 refine t1 4 ?_
 refine srz ?_
 refine nl ?_
 refine te (fun w hw=>⟨pt_at memA hw,pt_at memA hw⟩) ?_
 refine tka 5 ?_
 refine t0 ?_
 repeat' first|refine xc ?_|refine rt ?_
 exact rca (cs:=[.bool (decide (p.num < 0)),vn,vd]) (vs:=[.bool (decide (p.num < 0)),vn,vd]) (T:=TRt) ⟨vn,vd,rfl,hvn,hvd,rfl⟩
end Go.Art
namespace Go.Art
open Go Go.Proofs Go.RowKit
def chsI (n:Nat) (k:Int):Nat:=if k < 0 then 0 else chs n k.toNat
theorem chsI_fill (m d j:Nat):chsI m ((d:Int) - j) = fillN m d j:=by
 unfold chsI fillN
 by_cases h:j ≤ d
 ·rw [if_neg (by omega),if_pos h,show ((d:Int) - j).toNat = d - j by omega]
 ·rw [if_pos (by omega),if_neg h]
theorem foldl_addR (l:List Rat):∀ s:Rat,l.foldl (· + ·) s = s + sR (fun x=>x) l:=by
 induction l with
 | nil=>intro s;simp only [List.foldl_nil,sR];grind
 | cons a l ih=>intro s;rw [List.foldl_cons,ih];simp only [sR];grind
theorem Tr.wk {P:Program} {f:FuncId} {args:List Value} {pre A:List Ch} {R:Value→List Ch→Prop} (W:Ch) (h:Tr P f args pre A R):Tr P f args pre (W :: A) R:=by
 refine ⟨fun w hw=>?_,h.lent⟩
 have h1:Sat (pre ++ A) w:=by
  have h2:Sat (W :: (pre ++ A)) w:=hw.perm List.perm_middle
  exact (Sat.cons.1 h2).2.2
 have e1:∀ b,wrs A b→wrs (W :: A) b:=fun b ⟨c,hc,hb⟩=>⟨c,List.mem_cons_of_mem _ hc,hb⟩
 have e2:∀ b,rds A b→rds (W :: A) b:=fun b ⟨c,hc,hb⟩=>⟨c,List.mem_cons_of_mem _ hc,hb⟩
 refine (h.run w h1).mono fun v w' ⟨B,hR,hS,hM,hB⟩=>⟨B,hR,hS,⟨hM.os,hM.tape,hM.output,hM.size,fun k hk hn=>hM.block k hk fun h=>hn (e1 k h),fun b hb=>(hM.wr b hb).imp_left (e1 b),fun b hb=>(hM.rd b hb).imp (e1 b) (Or.imp_left (e2 b))⟩,hB⟩
theorem Tr.unbK {P:Program} {f:FuncId} {args:List Value} {pre C:List Ch} {W:Ch} {R R':Value→List Ch→Prop} (h:Tr P f args pre [W,Go.Art.bnd C] R) (k:∀ v D,R v D→∃ C',D = [Go.Art.bnd C']∧R' v C'):Tr P f args pre (C ++ [W]) R':=by
 refine ⟨fun w hw=>?_,h.lent⟩
 have p1:(pre ++ (C ++ [W])).Perm (C ++ (pre ++ [W])):=(List.perm_append_comm_assoc pre C [W])
 have p2:(Go.Art.bnd C :: (pre ++ [W])).Perm (pre ++ [W,Go.Art.bnd C]):=by
  have:(Go.Art.bnd C :: (pre ++ [W])).Perm ((pre ++ [W]) ++ [Go.Art.bnd C]):=List.perm_append_comm (l₁:=[Go.Art.bnd C]) (l₂:=pre ++ [W])
  simpa using this
 have h1:Sat (pre ++ [W,Go.Art.bnd C]) w:=(bnd_sat.2 (hw.perm p1)).perm p2
 have e1:∀ b,wrs [W,Go.Art.bnd C] b→wrs (C ++ [W]) b:=fun b ⟨c,hc,hb⟩=>by
  simp only [List.mem_cons,List.not_mem_nil,or_false] at hc
  rcases hc with rfl | rfl
  ·exact ⟨c,by simp,hb⟩
  ·obtain ⟨d,hd,h⟩:=hb;exact ⟨d,List.mem_append_left _ hd,h⟩
 have e2:∀ b,rds [W,Go.Art.bnd C] b→rds (C ++ [W]) b:=fun b ⟨c,hc,hb⟩=>by
  simp only [List.mem_cons,List.not_mem_nil,or_false] at hc
  rcases hc with rfl | rfl
  ·exact ⟨c,by simp,hb⟩
  ·obtain ⟨d,hd,h⟩:=hb;exact ⟨d,List.mem_append_left _ hd,h⟩
 have f1:∀ (C:List Ch) (b:Nat),wrs [Go.Art.bnd C] b ↔ wrs C b:=fun C b=>by have:=bnd_wrs (C:=C) (F:=[]) (b:=b);rwa [List.append_nil] at this
 have f2:∀ (C:List Ch) (b:Nat),rds [Go.Art.bnd C] b ↔ rds C b:=fun C b=>by have:=bnd_rds (C:=C) (F:=[]) (b:=b);rwa [List.append_nil] at this
 refine (h.run w h1).mono fun v w' ⟨B,hR,hS,hM,hB⟩=>?_
 obtain ⟨C',rfl,hR'⟩:=k v B hR
 refine ⟨C',hR',by have:=bnd_sat.1 hS;rwa [List.append_nil] at this,?_,fun c hc b hb=>hB _ (List.Mem.head _) b ⟨c,hc,hb⟩⟩
 exact ⟨hM.os,hM.tape,hM.output,hM.size,fun k hk hn=>hM.block k hk fun h=>hn (e1 k h),fun b hb=>(hM.wr b ((f1 C' b).2 hb)).imp_left (e1 b),fun b hb=>(hM.rd b ((f2 C' b).2 hb)).imp (e1 b) (Or.imp_left (e2 b))⟩
theorem Ty.bndL {P:Program} {l:Nat} {vs:List Value} {K pre C:List Ch} {R:Bool→List Ch→Prop} (h:Ty P l vs pre (C ++ K) fun b D=>R b [Go.Art.bnd D]):Ty P l vs pre (K ++ [Go.Art.bnd C]) R:=by
 refine ⟨fun w hw=>?_,h.lent⟩
 have p1:(pre ++ (K ++ [Go.Art.bnd C])).Perm (Go.Art.bnd C :: (pre ++ K)):=by
  have:((pre ++ K) ++ [Go.Art.bnd C]).Perm (Go.Art.bnd C :: (pre ++ K)):=List.perm_append_comm (l₁:=pre ++ K) (l₂:=[Go.Art.bnd C])
  simpa using this
 have h1:Sat (pre ++ (C ++ K)) w:=(bnd_sat.1 (hw.perm p1)).perm (List.perm_append_comm_assoc C pre K)
 have e1:∀ b,wrs (C ++ K) b→wrs (K ++ [Go.Art.bnd C]) b:=fun b ⟨c,hc,hb⟩=>by
  rcases List.mem_append.1 hc with hc | hc
  ·exact ⟨Go.Art.bnd C,by simp,c,hc,hb⟩
  ·exact ⟨c,List.mem_append_left _ hc,hb⟩
 have e2:∀ b,rds (C ++ K) b→rds (K ++ [Go.Art.bnd C]) b:=fun b ⟨c,hc,hb⟩=>by
  rcases List.mem_append.1 hc with hc | hc
  ·exact ⟨Go.Art.bnd C,by simp,c,hc,hb⟩
  ·exact ⟨c,List.mem_append_left _ hc,hb⟩
 have f1:∀ (C:List Ch) (b:Nat),wrs [Go.Art.bnd C] b ↔ wrs C b:=fun C b=>by have:=bnd_wrs (C:=C) (F:=[]) (b:=b);rwa [List.append_nil] at this
 have f2:∀ (C:List Ch) (b:Nat),rds [Go.Art.bnd C] b ↔ rds C b:=fun C b=>by have:=bnd_rds (C:=C) (F:=[]) (b:=b);rwa [List.append_nil] at this
 refine (h.run w h1).mono fun b w' ⟨B,hR,hS,hM,hB⟩=>⟨[Go.Art.bnd B],hR,bnd_sat.2 (by rw [List.append_nil];exact hS),⟨hM.os,hM.tape,hM.output,hM.size,fun k hk hn=>hM.block k hk fun h=>hn (e1 k h),fun x hx=>(hM.wr x ((f1 B x).1 hx)).imp_left (e1 x),fun x hx=>(hM.rd x ((f2 B x).1 hx)).imp (e1 x) (Or.imp_left (e2 x))⟩,fun c hc x hx=>?_⟩
 obtain rfl:=List.mem_singleton.1 hc
 obtain ⟨y,hy,h2⟩:=hx
 exact hB y hy x h2
section
variable {P:Program} {E:Env P} {n:Sh} {fr:Fr} {A A' D G:List Ch} {m:Nat}
theorem mca1 {Ds:List Nat} {w0:World} {A0:List Ch} {R':Value→List Ch→Prop} {fn:Func} {t:Nat} {ty T:TypeId} {dt:TypeDesc} {z:Value} {sz by_ b:Nat} {cs vs:List Value} (h:R' (.agg vs.toArray) D) (hr:fn.results = #[.cell t ty]:=by rfl) (ht:lk E.und ty = some dt:=by rfl) (hg:aggB dt = true:=by rfl) (hi:lk E.inf ty = some (z,sz,by_):=by rfl)
  (hv:get fr t = some (ptr b):=by rfl) (hm:Tk (dfrl Ds) A A':=by exact tkA) (hp:pt b cs T ∈ A':=by exact memA) (hcs:cs.take sz = vs:=by rfl) (hl:vs.length = sz:=by rfl) (hf:Fit A' D G:=by exact fitA) (nb:∀ c ∈ D,∀ b,¬ c.bd b:=by (repeat (first | exact nb0 | refine nb1 ?_));first | done | fail) (hn:n = ⟨m,marks Ds,none⟩:=by rfl) :
  TX E n ⟨bodyPostM (FF none) 0 P fn (RetP (PR w0 A0 R')),w0,A0⟩ [] .ret fr A:=by
 subst hn
 exact mG (.inl rfl) h (fun w hw a ha=>res_a1 (E:=E) ha hr ht hg hi hv (pt_at hp hw) hcs hl) hm hf nb
end
structure SeqQ (P:Program) (f:FuncId) (cap:Array Value) (U W:Ch) (qs:List Rat):Prop where
 run:∀ {α:Type} (V:Ch) [Lent V] (l:Nat) (J:α→Ch) (pl:α→Nat→Prop) (S:α→Prop) (a0:α),pl a0 0→(∀ a b,¬ (J a).bd b) →
  (∀ a i v1 v2,v1.oneCell' = true→v2.oneCell' = true→pl a i→i < qs.length→Ty P l [rv (qs.getD i 0) v1 v2] [V] [own T64 v1 (Us (dg (qs.getD i 0).num.natAbs)),own T64 v2 (Us (dg (qs.getD i 0).den)),J a] fun ok B=>∃ a',B = [J a']∧((ok = true∧pl a' (i + 1))∨(ok = false∧S a'))) →
  Tr P f (yv l :: cap.toList) [V,U] [W,J a0] fun _ B=>∃ a,B = [J a]∧(pl a qs.length∨S a)
theorem in_step {t:List Int} {k:Nat} (hz:solE t k = 0) {i u j:Nat} (hi:i < t.length):mkRat (t.getD i 0) t.sum.toNat * mkRat ((chs u j * fillN (k - u) (i + 1) j:Nat):Int) (chs k (i + 1)) = omg t k i * ((chs u j:Rat) * fillC (k - u) (i + 1) j):=by
 obtain ⟨z1,z2,z3,z4⟩:=solE_zero hz
 have hs:=sum_posT z3 z4
 have h1:=cha_eq (d:=i + 1) hz (by omega) (by omega)
 rw [Nat.add_sub_cancel] at h1
 have h2:omg t k i = mkRat ((wS t k (i + 1):Nat):Int) (oneS t k):=(Rat.mkRat_eq_div _ _).symm
 rw [h2,← h1,fillC_nat]
 have c0:chs k (i + 1) ≠ 0:=chs_pos (by omega)
 have s0:t.sum.toNat ≠ 0:=by omega
 rw [Rat.mkRat_mul_mkRat]
 have e:(chs u j:Rat) * (fillN (k - u) (i + 1) j:Rat) = mkRat ((chs u j * fillN (k - u) (i + 1) j:Nat):Int) 1:=by rw [Rat.mkRat_eq_div];push_cast;grind
 rw [e,Rat.mkRat_mul_mkRat,Nat.mul_one,Nat.mul_comm (chs k (i + 1)) t.sum.toNat]
theorem fillN_le (m d j:Nat):fillN m d j ≤ 2 ^ m:=by
 unfold fillN;split
 ·exact chs_le _ _
 ·exact Nat.zero_le _
theorem inN_le {t:List Int} {k u j:Nat} (hz:solE t k = 0) (hk:k ≤ 40) (hu:u ≤ k):∀ m,m ≤ t.length→inN m k (fun i=>wS t k (i + 1)) u j ≤ m * (oneS t k * (2 ^ 40 * 2 ^ 40)):=by
 intro m
 induction m with
 | zero=>intro _;unfold inN;simp
 | succ m ih=>
  intro hm
  have h1:inN (m + 1) k (fun i=>wS t k (i + 1)) u j = inN m k (fun i=>wS t k (i + 1)) u j + wS t k (m + 1) * (chs u j * fillN (k - u) (m + 1) j):=by unfold inN;rw [List.range_succ,List.map_append,List.sum_append];simp
  rw [h1,Nat.succ_mul]
  refine Nat.add_le_add (ih (by omega)) (Nat.mul_le_mul (wS_le hz (by omega) (by omega)) (Nat.mul_le_mul ?_ ?_))
  ·exact Nat.le_trans (chs_le _ _) (Nat.pow_le_pow_right (by decide) (by omega))
  ·exact Nat.le_trans (fillN_le _ _ _) (Nat.pow_le_pow_right (by decide) (by omega))
theorem FB_nat {a E B:Nat} (hE:E ≠ 0) (ha:a < 18446744073709551616 ^ B) (hb:E < 18446744073709551616 ^ B):FB ((a:Rat) / (E:Rat)) B:=by
 have e:(a:Rat) / (E:Rat) = mkRat (a:Int) E:=(Rat.mkRat_eq_div _ _).symm
 rw [e]
 exact FB_mk hE ((dg_len _ _).2 ha) ((dg_len _ _).2 hb)
theorem evI_FB {t:List Int} {k u j m:Nat} (hz:solE t k = 0) (hk:k ≤ 40) (hl:t.length ≤ 12) (hu:u ≤ k) (hm:m ≤ t.length):FB (evI m k (omg t k) u j) 12:=by
 rw [evI_nat]
 have h1:=inN_le (j:=j) hz hk hu m hm
 have h2:=oneS_lt hz hk hl
 refine FB_nat (oneS_pos hz) (Nat.lt_of_le_of_lt h1 ?_) (Nat.lt_trans h2 (by decide))
 have h3:m * (oneS t k * (2 ^ 40 * 2 ^ 40)) ≤ 12 * (18446744073709551616 ^ 10 * (2 ^ 40 * 2 ^ 40)):=Nat.mul_le_mul (by omega) (Nat.mul_le_mul_right _ (Nat.le_of_lt h2))
 exact Nat.lt_of_le_of_lt h3 (by decide)
theorem term_FB {t:List Int} {k u j i:Nat} (hz:solE t k = 0) (hk:k ≤ 40) (hl:t.length ≤ 12) (hu:u ≤ k) (hi:i < t.length):FB (omg t k i * ((chs u j:Rat) * fillC (k - u) (i + 1) j)) 12:=by
 have e:omg t k i * ((chs u j:Rat) * fillC (k - u) (i + 1) j) = ((wS t k (i + 1) * (chs u j * fillN (k - u) (i + 1) j):Nat):Rat) / (oneS t k:Rat):=by
  unfold omg natW;rw [fillC_nat,Rat.div_def,Rat.div_def];push_cast;grind
 rw [e]
 have h2:=oneS_lt hz hk hl
 have h3:=wS_le (d:=i + 1) hz (by omega) (by omega)
 refine FB_nat (oneS_pos hz) ?_ (Nat.lt_trans h2 (by decide))
 have h4:wS t k (i + 1) * (chs u j * fillN (k - u) (i + 1) j) ≤ 18446744073709551616 ^ 10 * (2 ^ 40 * 2 ^ 40):=Nat.mul_le_mul (by omega) (Nat.mul_le_mul (Nat.le_trans (chs_le _ _) (Nat.pow_le_pow_right (by decide) (by omega))) (Nat.le_trans (fillN_le _ _ _) (Nat.pow_le_pow_right (by decide) (by omega))))
 exact Nat.lt_of_le_of_lt h4 (by decide)
attribute [local irreducible] Fit pt own ro vw mpc lpt vels rels mow lrc dfr
attribute [local irreducible] lmp lme mit velg relg bnd owl dfrl
theorem crefuses_tr (tv:Value) (t:List Int) (k u:Nat) (hz:solE t k = 0) (hk:k ≤ 1024) (hu:u ≤ k):Tr Tryz.prog 212 [tv,I k,I u] [vw tv (Is t)] [] fun v D=>v = I 0∧D = []:=by
 have hC:=SoCheck_tr tv t k
 rw [hz] at hC
 have hk1:=(solE_zero hz).1
 refine Tr.enter env _ Tryz.func212 (by kernel_rfl) rfl Tryz.ntmps212 rfl (by repeat (first | exact has00 | refine has01 ?_)) fun w0=>?_
 repeat' first|(refine gca ?_;first|(refine ca hC ?_;rintro _ _ ⟨rfl,rfl⟩))|(refine wo ?_;first|(refine ao ?_;first|refine oa ?_)|refine oa ?_|refine gy ?_|(refine gsi (fun hB=>?_) (fun hB=>?_) <;> try (exfalso;omega)))|(refine gc ?_;first|refine cf ?_|(refine ci (fun hB=>?_) (fun hB=>?_) <;> try (exfalso;omega)))|refine sq ?_|refine rg ?_|refine xc ?_|refine nl ?_|refine sk ?_|refine bk ?_|refine rt ?_|refine xb ?_
 exact r1 ⟨rfl,rfl⟩
theorem cpair_tr (x y:Nat) (hx:x < 9223372036854775808) (hy:y < 9223372036854775808) (hy0:y ≠ 0):Tr Tryz.prog 217 [I x,I y] [] [] (FQ (mkRat x y)):=by
 have hP:=FPair_tr x y hx hy hy0
 unfold FQ2 at hP
 unfold FQ
 generalize mkRat (x:Int) y = q at *
 refine Tr.enter env _ Tryz.func217 (by kernel_rfl) rfl Tryz.ntmps217 rfl (by repeat (first | exact has00 | refine has01 ?_)) fun w0=>?_
 repeat' first|(refine gca ?_;first|(refine ca hP ?_;rintro _ _ ⟨vn,vd,rfl,hvn,hvd,rfl⟩))|refine al fun c=>?_|refine srz ?_|refine lda ?_|(refine wo ?_;first|refine oa ?_)|refine sq ?_|refine rg ?_|refine xc ?_|refine nl ?_|refine rt ?_
 exact rca1 (cs:=[.bool (decide (q.num < 0)),vn,vd]) (vs:=[.bool (decide (q.num < 0)),vn,vd]) (T:=TRt) ⟨vn,vd,rfl,hvn,hvd,rfl⟩
theorem plus_tr (q r:Rat) (v1 v2 v3 v4:Value) (h1:v1.oneCell' = true) (h2:v2.oneCell' = true) (h3:v3.oneCell' = true) (h4:v4.oneCell' = true) (hq:FB q 8589934592) (hr:FB r 8589934592) :
  Tr Tryz.prog 265 [rv q v1 v2,rv r v3 v4] [vw v1 (Us (dg q.num.natAbs)),vw v2 (Us (dg q.den)),vw v3 (Us (dg r.num.natAbs)),vw v4 (Us (dg r.den))] [] (FQ (q + r)):=by
 have hA:=fun lv=>FAdd2_tr q r lv v1 v2 v3 v4 hq hr
 unfold FQ2 at hA
 unfold FQ
 obtain ⟨s,hs⟩ : ∃ s,s = q + r:=⟨_,rfl⟩
 rw [← hs] at hA ⊢
 refine Tr.enter env _ Tryz.func265 (by kernel_rfl) rfl Tryz.ntmps265 rfl (by repeat (first | exact has00 | refine has01 ?_)) fun w0=>?_
 repeat' first|(refine gca ?_;first|(refine ca (hA _) ?_ (hp:=has1 (has_oww memA) (has1 hasA (has1 hasA (has1 hasA (has1 hasA has0)))));rintro _ _ ⟨n1,n2,rfl,hn1,hn2,rfl⟩))|refine bx fun b=>?_|refine al fun c=>?_|refine lda ?_|refine slws fun g2=>?_|refine srz ?_|(refine wo ?_;first|refine oa ?_)|refine sq ?_|refine rg ?_|refine xc ?_|refine nl ?_|refine rt ?_
 exact rca1 (cs:=[.bool (decide (s.num < 0)),n1,n2]) (vs:=[.bool (decide (s.num < 0)),n1,n2]) (T:=TRt) ⟨n1,n2,rfl,hn1,hn2,rfl⟩
theorem ChooseI_tr (n:Nat) (k:Int) (hn:n ≤ 65536):Tr Tryz.prog 137 [I n,I k] [] [] fun u D=>eNat u D (chsI n k) 0:=by
 by_cases h0:0 ≤ k∧k ≤ n
 ·obtain ⟨m,rfl⟩ : ∃ m:Nat,k = m:=⟨k.toNat,by omega⟩
  have:=Choose_tr n m hn (by omega)
  unfold chsI
  rw [if_neg (by omega),Int.toNat_natCast]
  exact this
 ·have e:chsI n k = 0:=by
   unfold chsI;split
   ·rfl
   ·exact chs_over (by omega)
  unfold eNat
  rw [e,dg_zero]
  refine Tr.enter env _ Tryz.func137 (by kernel_rfl) rfl Tryz.ntmps137 rfl (by repeat (first | exact has00 | refine has01 ?_)) fun w0=>?_
  refine TC.im (own_nil T64 _) ?_
  repeat' first|(refine wo ?_;first|(refine ao ?_;first|refine oa ?_)|refine oa ?_|refine gy ?_|refine gn ?_|(refine gsi (fun hB=>?_) (fun hB=>?_) <;> try (exfalso;omega)))|(refine gc ?_;first|refine ct ?_|(refine ci (fun hB=>?_) (fun hB=>?_) <;> try (exfalso;omega)))|refine sq ?_|refine rg ?_|refine xc ?_|refine nl ?_|refine sk ?_|refine rt ?_
  all_goals exact r2 ⟨nS,rfl,rfl,rfl⟩
theorem cmeets_tr (k u j d:Nat) (hk:k ≤ 40) (hu:u ≤ k) (hj:j ≤ u) (hd:d ≤ k):Tr Tryz.prog 264 [I k,I u,I j,I d] [] [] (FQ (mkRat ((chs u j * fillN (k - u) d j:Nat):Int) (chs k d))):=by
 have hC1:=Choose_tr u j (by omega) hj
 have hC2:=ChooseI_tr (k - u) ((d:Int) - j) (by omega)
 rw [chsI_fill] at hC2
 have hC3:=Choose_tr k d (by omega) hd
 have l1:=Nat.le_trans (chs_len u j) (show u + 1 ≤ 41 by omega)
 have l2:(dg (fillN (k - u) d j)).length ≤ 1:=dg_len1 (Nat.lt_of_le_of_lt (fillN_le _ _ _) (Nat.lt_of_le_of_lt (Nat.pow_le_pow_right (by decide) (show k - u ≤ 40 by omega)) (by decide)))
 have hM:=fun v1 v2=>NMul_tr v1 v2 (dg (chs u j)) (dg (fillN (k - u) d j)) (Dg_dg _) (Dg_dg _) (by omega) (by omega)
 rw [nv_dg,nv_dg] at hM
 have l3:=dg_mul_len l1 l2
 have hI:=fun o=>IMake_tr false o (dg (chs u j * fillN (k - u) d j)) (Dg_dg _) (by omega)
 have hR:=fun o dv=>FMake_tr ((chs u j * fillN (k - u) d j:Nat):Int) o dv (dg (chs k d)) (Dg_dg _) (by unfold dz;rw [Int.natAbs_natCast];omega) (by have:=chs_len k d;omega) (by rw [nv_dg];exact chs_pos hd)
 have hs:∀ n:Nat,sg false n = (n:Int):=fun n=>rfl
 simp only [nv_dg,hs] at hI hR
 unfold IR at hI
 unfold dz at hR
 simp only [Int.natAbs_natCast] at hI hR
 unfold eNat at hC1 hC2 hC3
 unfold FQ2 at hR
 have hn:decide (((chs u j * fillN (k - u) d j:Nat):Int) < 0) = false:=decide_eq_false (by omega)
 unfold iv at hR
 rw [hn] at hI hR
 clear l1 l2 l3 hn hs
 unfold FQ
 generalize mkRat ((chs u j * fillN (k - u) d j:Nat):Int) (chs k d) = q at *
 generalize dg (chs u j * fillN (k - u) d j) = lm at *
 generalize dg (chs u j) = lx1 at *
 generalize dg (fillN (k - u) d j) = lx2 at *
 generalize dg (chs k d) = lx3 at *
 have hku:(k:Int) - u = ((k - u:Nat):Int):=by omega
 refine Tr.enter env _ Tryz.func264 (by kernel_rfl) rfl Tryz.ntmps264 rfl (by repeat (first | exact has00 | refine has01 ?_)) fun w0=>?_
 repeat' first|(refine gca ?_;first|(refine ca hC1 ?_;rintro _ _ ⟨o1,rfl,ho1,rfl⟩)|(refine ca hC2 ?_;rintro _ _ ⟨o2,rfl,ho2,rfl⟩)|(refine ca hC3 ?_;rintro _ _ ⟨o3,rfl,ho3,rfl⟩)|(refine ca (hM o1 o2) ?_;rintro o4 _ ⟨ho4,rfl⟩)|(refine ca (hI o4) ?_;rintro _ _ ⟨o5,rfl,ho5,rfl⟩)|(refine ca (hR o5 o3) ?_;rintro _ _ ⟨vn,vd,rfl,hvn,hvd,rfl⟩))|refine al fun c=>?_|(refine aw (m:=(k:Int) - u) ?_;rw [hku])|refine srz ?_|refine lda ?_|(refine wo ?_;first|(refine ao ?_;first|refine aw ?_)|refine oa ?_)|refine sq ?_|refine rg ?_|refine xc ?_|refine nl ?_|refine rt ?_
 exact rca1 (cs:=[.bool (decide (q.num < 0)),vn,vd]) (vs:=[.bool (decide (q.num < 0)),vn,vd]) (T:=TRt) ⟨vn,vd,rfl,hvn,hvd,rfl⟩
end Go.Art
namespace Go.Art
open Go Go.Proofs Go.RowKit
theorem FB_one:FB 1 8589934592:=⟨by rw [show (1:Rat).num.natAbs = 1 from rfl];exact Nat.le_trans (dg_len1 (by decide)) (by decide),by rw [show (1:Rat).den = 1 from rfl];exact Nat.le_trans (dg_len1 (by decide)) (by decide)⟩
theorem has_lbds {F C:List Ch} (h:lbd C ∈ F):∀ (D:List Ch),(∀ c ∈ D,∀ b,¬ c.wr b∧¬ c.rd b)→(∀ c ∈ D,c ∈ C)→∀ c ∈ D,Has F c:=fun D hl hm c hc=>by
 haveI:Lent c:=⟨hl c hc⟩
 exact has_lbd (has_mem h) (hm c hc)
structure InS (α:Type) where
 i:Nat
 a:α
structure FoS where
 i:Nat
 vn:Value
 vd:Value
def inQ (t:List Int) (k u j:Nat):List Rat:=(List.range t.length).map fun i=>omg t k i * ((chs u j:Rat) * fillC (k - u) (i + 1) j)
theorem inQ_len (t:List Int) (k u j:Nat):(inQ t k u j).length = t.length:=by simp [inQ]
theorem inQ_get {t:List Int} {k u j i:Nat} (h:i < t.length):(inQ t k u j).getD i 0 = omg t k i * ((chs u j:Rat) * fillC (k - u) (i + 1) j):=by simp [inQ,List.getD_eq_getElem?_getD,h]
theorem inQ_sum (t:List Int) (k u j m:Nat) (hm:m ≤ t.length):((inQ t k u j).take m).foldl (· + ·) 0 = evI m k (omg t k) u j:=by
 have e:(inQ t k u j).take m = (List.range m).map fun i=>omg t k i * ((chs u j:Rat) * fillC (k - u) (i + 1) j):=by
  unfold inQ;rw [← List.map_take,List.take_range,Nat.min_eq_left hm]
 rw [foldl_addR,Rat.zero_add,e,sR_map];rfl
def rowQ (t:List Int) (k u j:Nat):List Rat:=(List.range (u + 1 - j)).map fun i=>evI t.length k (omg t k) u (j + i)
theorem rowQ_len (t:List Int) (k u j:Nat):(rowQ t k u j).length = u + 1 - j:=by simp [rowQ]
theorem rowQ_get {t:List Int} {k u j i:Nat} (h:i < u + 1 - j):(rowQ t k u j).getD i 0 = evI t.length k (omg t k) u (j + i):=by simp [rowQ,List.getD_eq_getElem?_getD,h]
theorem rowQ_sum (t:List Int) (k u j m:Nat) (hm:m ≤ u + 1 - j):((rowQ t k u j).take m).foldl (· + ·) 0 = sR (fun i=>evI t.length k (omg t k) u (j + i)) (List.range m):=by
 have e:(rowQ t k u j).take m = (List.range m).map fun i=>evI t.length k (omg t k) u (j + i):=by
  unfold rowQ;rw [← List.map_take,List.take_range,Nat.min_eq_left hm]
 rw [foldl_addR,Rat.zero_add,e,sR_map]
attribute [local irreducible] Fit pt own ro vw mpc lpt vels rels mow lrc dfr
attribute [local irreducible] lmp lme mit velg relg bnd owl dfrl
theorem FMul2_tr (q r:Rat) (lv v1 v2 v3 v4:Value) (hq:FB q 8589934592) (hr:FB r 8589934592) :
  Tr Tryz.prog 79 [lv] [vwf lv 2 (rrow q (v1,v2) ++ rrow r (v3,v4)),vw v1 (Us (dg q.num.natAbs)),vw v2 (Us (dg q.den)),vw v3 (Us (dg r.num.natAbs)),vw v4 (Us (dg r.den))] [] (FQ2 (q * r) 0):=by
 have h:=FMul_tr lv [q,r] [(v1,v2),(v3,v4)] rfl (fun i hi=>by
  match i,hi with
  | 0,_=>exact hq
  | 1,_=>exact hr) (fun i hi=>by
  match i,hi with
  | 0,_=>exact FB_one
  | 1,_=>
   show FB (1 * q) _
   rw [Rat.one_mul];exact hq)
 rw [show [q,r].foldl (· * ·) (1:Rat) = q * r by show 1 * q * r = q * r;rw [Rat.one_mul]] at h
 refine h.pre ?_ (by repeat (first | exact has00 | refine has01 ?_))
 refine has1 (has_vwf (List.Mem.head _)) (has1 (has_vfr_cons (has_vw (by simp)) (has_vw (by simp)) (has_vfr_cons (has_vw (by simp)) (has_vw (by simp)) has_vfr_nil)) has0)
theorem FMul3_tr (q r p:Rat) (lv v1 v2 v3 v4 v5 v6:Value) (hq:FB q 8589934592) (hr:FB r 8589934592) (hp:FB p 8589934592) (hqr:FB (q * r) 8589934592) :
  Tr Tryz.prog 79 [lv] [vwf lv 3 (rrow q (v1,v2) ++ rrow r (v3,v4) ++ rrow p (v5,v6)),vw v1 (Us (dg q.num.natAbs)),vw v2 (Us (dg q.den)),vw v3 (Us (dg r.num.natAbs)),vw v4 (Us (dg r.den)),vw v5 (Us (dg p.num.natAbs)),vw v6 (Us (dg p.den))] [] (FQ2 (q * r * p) 0):=by
 have h:=FMul_tr lv [q,r,p] [(v1,v2),(v3,v4),(v5,v6)] rfl (fun i hi=>by
  match i,hi with
  | 0,_=>exact hq
  | 1,_=>exact hr
  | 2,_=>exact hp) (fun i hi=>by
  match i,hi with
  | 0,_=>exact FB_one
  | 1,_=>
   show FB (1 * q) _
   rw [Rat.one_mul];exact hq
  | 2,_=>
   show FB (1 * q * r) _
   rw [Rat.one_mul];exact hqr)
 rw [show [q,r,p].foldl (· * ·) (1:Rat) = q * r * p by show 1 * q * r * p = q * r * p;rw [Rat.one_mul]] at h
 refine h.pre ?_ (by repeat (first | exact has00 | refine has01 ?_))
 refine has1 (has_vwf (List.Mem.head _)) (has1 (has_vfr_cons (has_vw (by simp)) (has_vw (by simp)) (has_vfr_cons (has_vw (by simp)) (has_vw (by simp)) (has_vfr_cons (has_vw (by simp)) (has_vw (by simp)) has_vfr_nil))) has0)
theorem in1_seq (p1 p2 p3 p4 p5:Nat) (tv:Value) (t:List Int) (k u j:Nat) (hz:solE t k = 0) (hk:k ≤ 40) (hl:t.length ≤ 12) (hu:u ≤ k) (hj:j ≤ u) :
  SeqQ Tryz.prog 263 #[ptr p1,ptr p2,ptr p3,ptr p4,ptr p5] (lbd [lpt p1 [tv] TLs,lpt p2 [I t.sum] TLI,lpt p3 [I k] TLI,lpt p4 [I u] TLI,lpt p5 [I j] TLI,vw tv (Is t)]) (own T64 nS (Us [])) (inQ t k u j):=by
 refine ⟨fun {α} V hV l J pl S a0 h0 hnb hy=>Tr.wk _ ?_⟩
 haveI:=hV
 haveI:∀ a,NoB (J a):=fun a=>⟨hnb a⟩
 refine Tr.pre (pre:=[V,lpt p1 [tv] TLs,lpt p2 [I t.sum] TLI,lpt p3 [I k] TLI,lpt p4 [I u] TLI,lpt p5 [I j] TLI,vw tv (Is t)]) ?_ (has1 (has_mem (by simp)) (has_lbds (C:=[lpt p1 [tv] TLs,lpt p2 [I t.sum] TLI,lpt p3 [I k] TLI,lpt p4 [I u] TLI,lpt p5 [I j] TLI,vw tv (Is t)]) (by simp) _ (by repeat (first | exact has00 | refine has01 ?_)) fun c hc=>hc)) (by repeat (first | exact has00 | refine has01 ?_))
 rw [inQ_len] at hy ⊢
 obtain ⟨z1,z2,z3,z4⟩:=solE_zero hz
 have hs0:=sum_posT z3 z4
 have hs1:=(sum_wOk z3).2
 obtain ⟨s,hs⟩ : ∃ s:Nat,t.sum = s:=⟨t.sum.toNat,by omega⟩
 have hstep:=fun i (hi:i < t.length)=>in_step (u:=u) (j:=j) hz hi
 have hterm:=fun i (hi:i < t.length)=>term_FB (u:=u) (j:=j) hz hk hl hu hi
 have hget:=fun i (hi:i < t.length)=>inQ_get (k:=k) (u:=u) (j:=j) hi
 have hmeet:=fun d (hd:d ≤ k)=>cmeets_tr k u j d hk hu hj hd
 have hb:∀ i,i < t.length→0 ≤ t.getD i 0∧t.getD i 0 ≤ 16777215:=fun i hi=>z3 _ (by rw [List.getD_eq_getElem?_getD,List.getElem?_eq_getElem hi];exact List.getElem_mem hi)
 have hF2:∀ d,d ≤ k→FB (mkRat ((chs u j * fillN (k - u) d j:Nat):Int) (chs k d)) 8589934592:=fun d hd=>by
  have c1:chs u j * fillN (k - u) d j ≤ 2 ^ 40 * 2 ^ 40:=Nat.mul_le_mul (Nat.le_trans (chs_le _ _) (Nat.pow_le_pow_right (by decide) (by omega))) (Nat.le_trans (fillN_le _ _ _) (Nat.pow_le_pow_right (by decide) (by omega)))
  refine (FB_mk (B:=2) (chs_pos hd) ((dg_len _ _).2 (Nat.lt_of_le_of_lt c1 (by decide))) ?_).le (by decide)
  exact (dg_len _ _).2 (Nat.lt_of_le_of_lt (Nat.le_trans (chs_le k d) (Nat.pow_le_pow_right (by decide) hk)) (by decide))
 have htl:t.length ≤ k:=by omega
 rw [hs] at hs0 hs1 hstep ⊢
 rw [Int.toNat_natCast] at hstep
 clear hz z1 z2 z3 z4
 refine Tr.enter env _ Tryz.func263 (by kernel_rfl) rfl Tryz.ntmps263 rfl (by repeat (first | exact has00 | refine has01 ?_)) fun w0=>?_
 repeat' first|(refine wo ?_;first|refine oa ?_|refine ldl ?_|refine lnm ?_)|refine sq ?_|refine rg ?_|refine xc ?_|refine nl ?_|refine bk ?_
 refine TC.loop (ι:=InS α) (fun g=>[(13,I g.i)]) (fun g=>[J g.a]) (fun g=>g.i ≤ t.length∧pl g.a g.i) (fun g=>t.length - g.i) ⟨0,a0⟩ [0,1,2,3,4,5,11,12] ⟨Nat.zero_le _,h0⟩ ?_
 rintro ⟨i,a⟩ ⟨hi,ha⟩
 dsimp only at hi ha ⊢
 by_cases hlt:i < t.length
 ·obtain ⟨w,hw⟩ : ∃ w:Nat,t.getD i 0 = w:=⟨(t.getD i 0).toNat,by have:=hb i hlt;omega⟩
  have hwb:=hb i hlt
  have hP:=cpair_tr w s (by omega) (by omega) (by omega)
  have hM:=hmeet (i + 1) (by omega)
  have hX:=hstep i hlt
  have hG:=hget i hlt
  have hFq:=hterm i hlt
  have hF1:FB (mkRat ((w:Nat):Int) s) 8589934592:=(FB_mk1 (by omega) (by omega) (by omega)).le (by decide)
  have hF3:=hF2 (i + 1) (by omega)
  rw [hw] at hX
  have hyi:=fun v1 v2 h1 h2=>hy a i v1 v2 h1 h2 ha hlt
  rw [hG,← hX] at hyi
  clear hmeet hstep hget hterm hF2 hb hG hFq hX hy hwb
  have hMul:=fun lv v1 v2 v3 v4=>FMul2_tr (mkRat ((w:Nat):Int) s) (mkRat ((chs u j * fillN (k - u) (i + 1) j:Nat):Int) (chs k (i + 1))) lv v1 v2 v3 v4 hF1 hF3
  clear hF1 hF3
  unfold FQ at hP hM
  unfold FQ2 at hMul
  generalize mkRat ((chs u j * fillN (k - u) (i + 1) j:Nat):Int) (chs k (i + 1)) = q2 at *
  generalize mkRat ((w:Nat):Int) s = q1 at *
  obtain ⟨q3,hq3⟩ : ∃ q3,q3 = q1 * q2:=⟨_,rfl⟩
  rw [← hq3] at hMul hyi
  repeat' first|refine lie hw ?_|(refine wo ?_;first|(refine ao ?_;first|refine oa ?_)|refine oa ?_|refine ixmn ?_)|(refine gc ?_;first|(refine ci (fun hB=>?_) (fun hB=>?_) <;> try (exfalso;omega)))|refine sq ?_|refine rg ?_|refine xc ?_|refine nl ?_|refine sk ?_|refine bk ?_
  refine rs (fun w=>w.heap[p2]? = some (.cells [I s].toArray TLI (0,0))∧w.heap[p3]? = some (.cells [I k].toArray TLI (0,0))∧w.heap[p4]? = some (.cells [I u].toArray TLI (0,0))∧w.heap[p5]? = some (.cells [I j].toArray TLI (0,0))) ?_ (fun w hw=>⟨lpt_at memA hw,lpt_at memA hw,lpt_at memA hw,lpt_at memA hw⟩)
  refine tka 0 ?_
  refine tkl 1 (cs:=[I s]) (fun w h=>h.1) ?_
  refine tkl 3 (cs:=[I k]) (fun w h=>h.2.1) ?_
  refine tkl 4 (cs:=[I u]) (fun w h=>h.2.2.1) ?_
  refine tkl 5 (cs:=[I j]) (fun w h=>h.2.2.2) ?_
  refine tka 6 ?_
  refine tkw 7 ((i + 1:Nat):Int) ?_
  refine t2 2 14 ?_ ?_
  ·refine ca hP ?_
   rintro _ _ ⟨n1,d1,rfl,hn1,hd1,rfl⟩
   refine nl ?_
   refine te (fun w hw=>⟨lpt_at memA hw,lpt_at memA hw,lpt_at memA hw,lpt_at memA hw⟩) ?_
   refine t2 8 14 ?_ ?_
   ·refine ca hM ?_
    rintro _ _ ⟨n2,d2,rfl,hn2,hd2,rfl⟩
    refine nl ?_
    refine te (fun w hw=>⟨lpt_at memA hw,lpt_at memA hw,lpt_at memA hw,lpt_at memA hw⟩) ?_
    refine t2 9 14 ?_ ?_
    ·refine slws (sz:=3) (xs:=rrow q1 (n1,d1) ++ rrow q2 (n2,d2)) fun g2=>?_
     refine nl ?_
     refine te (fun w hw=>⟨lpt_at memA hw,lpt_at memA hw,lpt_at memA hw,lpt_at memA hw⟩) ?_
     refine t2 10 14 ?_ ?_
     ·refine ca (hMul _ n1 d1 n2 d2) ?_ (hp:=has1 (has_oww memA) (has1 hasA (has1 hasA (has1 hasA (has1 hasA has0)))))
      rintro _ _ ⟨n3,d3,rfl,hn3,hd3,rfl⟩
      refine nl ?_
      refine te (fun w hw=>⟨lpt_at memA hw,lpt_at memA hw,lpt_at memA hw,lpt_at memA hw⟩) ?_
      refine tka 11 ?_
      refine tka 12 ?_
      refine tka 13 ?_
      refine t1 14 ?_
      refine al fun c9=>?_
      refine nl ?_
      refine te (fun w hw=>⟨lpt_at memA hw,lpt_at memA hw,lpt_at memA hw,lpt_at memA hw⟩) ?_
      refine t1 15 ?_
      refine srz ?_
      refine nl ?_
      refine te (fun w hw=>⟨lpt_at memA hw,lpt_at memA hw,lpt_at memA hw,lpt_at memA hw⟩) ?_
      refine tka 16 ?_
      refine t0 ?_
      repeat' first|refine lda ?_|(refine cy (hyi n3 d3 hn3 hd3) ?_ (hp:=has1 (has_mem memA) has0);rintro ok _ ⟨a2,rfl,⟨rfl,h3⟩ | ⟨rfl,h3⟩⟩)|(refine wo ?_;first|(refine ao ?_;first|refine aw ?_)|refine oa ?_)|(refine gc ?_;first|refine ct ?_|refine cf ?_)|refine sq ?_|refine rg ?_|refine xc ?_|refine nl ?_|refine sk ?_|refine rt ?_|refine xb ?_
      ·exact lp ⟨i + 1,a2⟩ ⟨hlt,h3⟩
      ·exact r0 ⟨a2,rfl,.inr h3⟩
     ·refine al fun c9=>?_
      refine nl ?_
      refine te (fun w hw=>⟨lpt_at memA hw,lpt_at memA hw,lpt_at memA hw,lpt_at memA hw⟩) ?_
      refine t1 10 ?_
      refine ca (hMul _ n1 d1 n2 d2) ?_ (hp:=has1 (has_oww memA) (has1 hasA (has1 hasA (has1 hasA (has1 hasA has0)))))
      rintro _ _ ⟨n3,d3,rfl,hn3,hd3,rfl⟩
      refine nl ?_
      refine te (fun w hw=>⟨lpt_at memA hw,lpt_at memA hw,lpt_at memA hw,lpt_at memA hw⟩) ?_
      refine tka 11 ?_
      refine tka 12 ?_
      refine tka 13 ?_
      refine t1 15 ?_
      refine srz ?_
      refine nl ?_
      refine te (fun w hw=>⟨lpt_at memA hw,lpt_at memA hw,lpt_at memA hw,lpt_at memA hw⟩) ?_
      refine tka 16 ?_
      refine t0 ?_
      repeat' first|refine lda ?_|(refine cy (hyi n3 d3 hn3 hd3) ?_ (hp:=has1 (has_mem memA) has0);rintro ok _ ⟨a2,rfl,⟨rfl,h3⟩ | ⟨rfl,h3⟩⟩)|(refine wo ?_;first|(refine ao ?_;first|refine aw ?_)|refine oa ?_)|(refine gc ?_;first|refine ct ?_|refine cf ?_)|refine sq ?_|refine rg ?_|refine xc ?_|refine nl ?_|refine sk ?_|refine rt ?_|refine xb ?_
      ·exact lp ⟨i + 1,a2⟩ ⟨hlt,h3⟩
      ·exact r0 ⟨a2,rfl,.inr h3⟩
    ·refine al fun c9=>?_
     refine nl ?_
     refine te (fun w hw=>⟨lpt_at memA hw,lpt_at memA hw,lpt_at memA hw,lpt_at memA hw⟩) ?_
     refine t1 9 ?_
     refine slws (sz:=3) (xs:=rrow q1 (n1,d1) ++ rrow q2 (n2,d2)) fun g2=>?_
     refine nl ?_
     refine te (fun w hw=>⟨lpt_at memA hw,lpt_at memA hw,lpt_at memA hw,lpt_at memA hw⟩) ?_
     refine t1 10 ?_
     refine ca (hMul _ n1 d1 n2 d2) ?_ (hp:=has1 (has_oww memA) (has1 hasA (has1 hasA (has1 hasA (has1 hasA has0)))))
     rintro _ _ ⟨n3,d3,rfl,hn3,hd3,rfl⟩
     refine nl ?_
     refine te (fun w hw=>⟨lpt_at memA hw,lpt_at memA hw,lpt_at memA hw,lpt_at memA hw⟩) ?_
     refine tka 11 ?_
     refine tka 12 ?_
     refine tka 13 ?_
     refine t1 15 ?_
     refine srz ?_
     refine nl ?_
     refine te (fun w hw=>⟨lpt_at memA hw,lpt_at memA hw,lpt_at memA hw,lpt_at memA hw⟩) ?_
     refine tka 16 ?_
     refine t0 ?_
     repeat' first|refine lda ?_|(refine cy (hyi n3 d3 hn3 hd3) ?_ (hp:=has1 (has_mem memA) has0);rintro ok _ ⟨a2,rfl,⟨rfl,h3⟩ | ⟨rfl,h3⟩⟩)|(refine wo ?_;first|(refine ao ?_;first|refine aw ?_)|refine oa ?_)|(refine gc ?_;first|refine ct ?_|refine cf ?_)|refine sq ?_|refine rg ?_|refine xc ?_|refine nl ?_|refine sk ?_|refine rt ?_|refine xb ?_
     ·exact lp ⟨i + 1,a2⟩ ⟨hlt,h3⟩
     ·exact r0 ⟨a2,rfl,.inr h3⟩
   ·refine al fun c9=>?_
    refine nl ?_
    refine te (fun w hw=>⟨lpt_at memA hw,lpt_at memA hw,lpt_at memA hw,lpt_at memA hw⟩) ?_
    refine t1 8 ?_
    refine ca hM ?_
    rintro _ _ ⟨n2,d2,rfl,hn2,hd2,rfl⟩
    refine nl ?_
    refine te (fun w hw=>⟨lpt_at memA hw,lpt_at memA hw,lpt_at memA hw,lpt_at memA hw⟩) ?_
    refine t1 9 ?_
    refine slws (sz:=3) (xs:=rrow q1 (n1,d1) ++ rrow q2 (n2,d2)) fun g2=>?_
    refine nl ?_
    refine te (fun w hw=>⟨lpt_at memA hw,lpt_at memA hw,lpt_at memA hw,lpt_at memA hw⟩) ?_
    refine t1 10 ?_
    refine ca (hMul _ n1 d1 n2 d2) ?_ (hp:=has1 (has_oww memA) (has1 hasA (has1 hasA (has1 hasA (has1 hasA has0)))))
    rintro _ _ ⟨n3,d3,rfl,hn3,hd3,rfl⟩
    refine nl ?_
    refine te (fun w hw=>⟨lpt_at memA hw,lpt_at memA hw,lpt_at memA hw,lpt_at memA hw⟩) ?_
    refine tka 11 ?_
    refine tka 12 ?_
    refine tka 13 ?_
    refine t1 15 ?_
    refine srz ?_
    refine nl ?_
    refine te (fun w hw=>⟨lpt_at memA hw,lpt_at memA hw,lpt_at memA hw,lpt_at memA hw⟩) ?_
    refine tka 16 ?_
    refine t0 ?_
    repeat' first|refine lda ?_|(refine cy (hyi n3 d3 hn3 hd3) ?_ (hp:=has1 (has_mem memA) has0);rintro ok _ ⟨a2,rfl,⟨rfl,h3⟩ | ⟨rfl,h3⟩⟩)|(refine wo ?_;first|(refine ao ?_;first|refine aw ?_)|refine oa ?_)|(refine gc ?_;first|refine ct ?_|refine cf ?_)|refine sq ?_|refine rg ?_|refine xc ?_|refine nl ?_|refine sk ?_|refine rt ?_|refine xb ?_
    ·exact lp ⟨i + 1,a2⟩ ⟨hlt,h3⟩
    ·exact r0 ⟨a2,rfl,.inr h3⟩
  ·refine al fun c9=>?_
   refine nl ?_
   refine te (fun w hw=>⟨lpt_at memA hw,lpt_at memA hw,lpt_at memA hw,lpt_at memA hw⟩) ?_
   refine t1 2 ?_
   refine ca hP ?_
   rintro _ _ ⟨n1,d1,rfl,hn1,hd1,rfl⟩
   refine nl ?_
   refine te (fun w hw=>⟨lpt_at memA hw,lpt_at memA hw,lpt_at memA hw,lpt_at memA hw⟩) ?_
   refine t1 8 ?_
   refine ca hM ?_
   rintro _ _ ⟨n2,d2,rfl,hn2,hd2,rfl⟩
   refine nl ?_
   refine te (fun w hw=>⟨lpt_at memA hw,lpt_at memA hw,lpt_at memA hw,lpt_at memA hw⟩) ?_
   refine t1 9 ?_
   refine slws (sz:=3) (xs:=rrow q1 (n1,d1) ++ rrow q2 (n2,d2)) fun g2=>?_
   refine nl ?_
   refine te (fun w hw=>⟨lpt_at memA hw,lpt_at memA hw,lpt_at memA hw,lpt_at memA hw⟩) ?_
   refine t1 10 ?_
   refine ca (hMul _ n1 d1 n2 d2) ?_ (hp:=has1 (has_oww memA) (has1 hasA (has1 hasA (has1 hasA (has1 hasA has0)))))
   rintro _ _ ⟨n3,d3,rfl,hn3,hd3,rfl⟩
   refine nl ?_
   refine te (fun w hw=>⟨lpt_at memA hw,lpt_at memA hw,lpt_at memA hw,lpt_at memA hw⟩) ?_
   refine tka 11 ?_
   refine tka 12 ?_
   refine tka 13 ?_
   refine t1 15 ?_
   refine srz ?_
   refine nl ?_
   refine te (fun w hw=>⟨lpt_at memA hw,lpt_at memA hw,lpt_at memA hw,lpt_at memA hw⟩) ?_
   refine tka 16 ?_
   refine t0 ?_
   repeat' first|refine lda ?_|(refine cy (hyi n3 d3 hn3 hd3) ?_ (hp:=has1 (has_mem memA) has0);rintro ok _ ⟨a2,rfl,⟨rfl,h3⟩ | ⟨rfl,h3⟩⟩)|(refine wo ?_;first|(refine ao ?_;first|refine aw ?_)|refine oa ?_)|(refine gc ?_;first|refine ct ?_|refine cf ?_)|refine sq ?_|refine rg ?_|refine xc ?_|refine nl ?_|refine sk ?_|refine rt ?_|refine xb ?_
   ·exact lp ⟨i + 1,a2⟩ ⟨hlt,h3⟩
   ·exact r0 ⟨a2,rfl,.inr h3⟩
 ·obtain rfl:i = t.length:=by omega
  repeat' first|(refine wo ?_;first|(refine ao ?_;first|refine oa ?_))|(refine gc ?_;first|(refine ci (fun hB=>?_) (fun hB=>?_) <;> try (exfalso;omega)))|refine sq ?_|refine rg ?_|refine xc ?_|refine nl ?_|refine xe ?_
  exact e0 ⟨a,rfl,.inl ha⟩
end Go.Art
namespace Go.Art
open Go Go.Proofs Go.RowKit
theorem sR_mono {f:Nat→Rat} (h:∀ i,0 ≤ f i) {m m':Nat} (hm:m ≤ m'):sR f (List.range m) ≤ sR f (List.range m'):=by
 obtain ⟨q,rfl⟩:=Nat.exists_eq_add_of_le hm
 rw [List.range_add,sR_app]
 have:=sR_nonneg (f:=f) (l:=(List.range q).map (m + ·)) fun x _=>h x
 grind
theorem FB_le1 {E B:Nat} {q:Rat} (h:FrQ E q) (hE:E ≠ 0) (h1:q ≤ 1) (hB:E < 18446744073709551616 ^ B):FB q B:=by
 obtain ⟨a,ha,rfl⟩:=h.le hE h1
 exact FB_nat hE (Nat.lt_of_le_of_lt ha hB) hB
theorem evI_nonneg (t:List Int) (k u j:Nat):0 ≤ evI t.length k (omg t k) u j:=(evI_fr t.length k _ (oneS t k) u j).nonneg
theorem rowQ_le {t:List Int} {k u m:Nat} (hz:solE t k = 0) (hu:u ≤ k) (hm:m ≤ u - 1):sR (fun i=>evI t.length k (omg t k) u (2 + i)) (List.range m) ≤ 1:=by
 have h1:=evQ_le (m:=t.length) (k:=k) (ω:=omg t k) (fun i _=>omg_nonneg t k i) (tabX_one hz) hu
 rw [evQ_sum,sR_congr (g:=fun i=>evI t.length k (omg t k) u (2 + i)) fun j _=>by rw [Nat.add_comm]] at h1
 exact Rat.le_trans (sR_mono (fun i=>evI_nonneg t k u (2 + i)) hm) h1
theorem rowQ_evQ (t:List Int) (k u:Nat):(rowQ t k u 2).foldl (· + ·) 0 = evQ t.length k (omg t k) u:=by
 have:=rowQ_sum t k u 2 (u + 1 - 2) (Nat.le_refl _)
 rw [List.take_of_length_le (by rw [rowQ_len];exact Nat.le_refl _)] at this
 rw [this,evQ_sum,show u + 1 - 2 = u - 1 by omega]
 exact sR_congr fun j _=>by rw [Nat.add_comm]
attribute [local irreducible] Fit pt own ro vw mpc lpt vels rels mow lrc dfr
attribute [local irreducible] lmp lme mit velg relg bnd owl dfrl
abbrev TF3:TypeId:=100
theorem cfold_tr (f:FuncId) (cap:Array Value) (U W:Ch) [Lent U] [NoB W] (qs:List Rat) (hS:SeqQ Tryz.prog f cap U W qs) (s:Rat) (v1 v2:Value) (h1:v1.oneCell' = true) (h2:v2.oneCell' = true) (hF:∀ i,i < qs.length→FB (qs.getD i 0) 8589934592) (hP:∀ i,i ≤ qs.length→FB ((qs.take i).foldl (· + ·) s) 8589934592) :
  Tr Tryz.prog 262 [.func (.func f) #[] cap,rv s v1 v2,.func (.func 265) #[] #[]] [U] [own T64 v1 (Us (dg s.num.natAbs)),own T64 v2 (Us (dg s.den)),W] (FQ (qs.foldl (· + ·) s)):=by
 obtain ⟨acc,hacc⟩ : ∃ acc:Nat→Rat,acc = fun i=>(qs.take i).foldl (· + ·) s:=⟨_,rfl⟩
 have ha0:acc 0 = s:=by rw [hacc];rfl
 have haN:acc qs.length = qs.foldl (· + ·) s:=by rw [hacc];simp
 have hst:∀ i,i < qs.length→acc i + qs.getD i 0 = acc (i + 1):=fun i hi=>by rw [hacc];exact (foldl_take (· + ·) s hi 0).symm
 have hPa:∀ i,i ≤ qs.length→FB (acc i) 8589934592:=fun i hi=>by rw [hacc];exact hP i hi
 rw [← haN,← ha0]
 clear hacc ha0 haN hP
 have hrun:=@SeqQ.run _ _ _ _ _ _ hS
 clear hS
 obtain ⟨M,hM⟩ : ∃ M,M = qs.length:=⟨_,rfl⟩
 unfold FQ
 refine Tr.enterM env _ Tryz.func262 (by kernel_rfl) rfl Tryz.ntmps262 rfl (by repeat (first | exact has00 | refine has01 ?_)) fun w0=>?_
 repeat' first|refine bx fun c5=>?_|refine al fun c6=>?_|(refine wo ?_;first|refine oa ?_)|refine sq ?_|refine rg ?_|refine xc ?_|refine nl ?_|refine bk ?_
 rename_i c4
 refine TC.range [lpt c5 [.func (.func 265) #[] #[]] TF3,U] [pt c4 (rrow (acc 0) (v1,v2)) TRt,own T64 v1 (Us (dg (acc 0).num.natAbs)),own T64 v2 (Us (dg (acc 0).den)),W] (fun l2 rec Dm pend B'=>∃ vn vd,B' = [dfr Dm,pt c4 (rrow (acc M) (vn,vd)) TRt,own T64 vn (Us (dg (acc M).num.natAbs)),own T64 vd (Us (dg (acc M).den))]∧pend = none∧vn.oneCell' = true∧vd.oneCell' = true) ?_ ?_ (hp:=has1 hasA (has1 (has_mem memA) has0))
 ·intro rec l2 Dm hr
  refine Tr.unbK (C:=[lrc l2 rec .ready none,dfr Dm,pt c4 (rrow (acc 0) (v1,v2)) TRt,own T64 v1 (Us (dg (acc 0).num.natAbs)),own T64 v2 (Us (dg (acc 0).den))]) (hrun (α:=FoS) (lpt c5 [.func (.func 265) #[] #[]] TF3) l2 (fun g=>bnd [lrc l2 rec .ready none,dfr Dm,pt c4 (rrow (acc g.i) (g.vn,g.vd)) TRt,own T64 g.vn (Us (dg (acc g.i).num.natAbs)),own T64 g.vd (Us (dg (acc g.i).den))]) (fun g i=>g.i = i∧g.vn.oneCell' = true∧g.vd.oneCell' = true) (fun _=>False) ⟨0,v1,v2⟩ ⟨rfl,h1,h2⟩ (fun p=>bnd_nob (nb1 (nb1 (nb1 (nb1 (nb1 nb0)))))) ?_) ?_
  ·rintro ⟨i,vn,vd⟩ j x1 x2 hx1 hx2 ⟨hji,hvn,hvd⟩ hj
   dsimp only at hji hvn hvd
   subst hji
   have hFj:=hF i hj
   have hPj:=hPa i (by omega)
   have hsj:=hst i hj
   have hA:=plus_tr (acc i) (qs.getD i 0) vn vd x1 x2 hvn hvd hx1 hx2 hPj hFj
   unfold FQ at hA
   rw [hsj] at hA
   clear hF hPa hst hrun hFj hPj hsj
   obtain ⟨q,hq⟩ : ∃ q,q = qs.getD i 0:=⟨_,rfl⟩
   rw [← hq] at hA ⊢
   refine Ty.bndL (K:=[own T64 x1 (Us (dg q.num.natAbs)),own T64 x2 (Us (dg q.den))]) (C:=[lrc l2 rec .ready none,dfr Dm,pt c4 (rrow (acc i) (vn,vd)) TRt,own T64 vn (Us (dg (acc i).num.natAbs)),own T64 vd (Us (dg (acc i).den))]) ?_
   refine Ty.intro env hr (by repeat (first | exact has00 | refine has01 ?_)) fun w1=>?_
   repeat' first|refine al fun c7=>?_|refine xbeg ?_|refine lda (cs:=rrow (acc i) (vn,vd)) ?_|refine lda (cs:=rrow q (x1,x2)) ?_|refine srz ?_ (hj:=Nat.le_of_ble_eq_true rfl)|(refine cav (cap:=#[]) (vs:=[rv (acc i) vn vd,rv q x1 x2]) hA ?_;rintro _ _ ⟨n1,n2,rfl,hn1,hn2,rfl⟩)|(refine wo ?_;first|refine ldl ?_)|refine rg ?_|refine nl ?_|refine bk ?_|refine xb ?_
   exact yn ⟨⟨i + 1,n1,n2⟩,rfl,.inl ⟨rfl,rfl,hn1,hn2⟩⟩
  ·rintro _ _ ⟨⟨i,vn,vd⟩,rfl,⟨rfl,g2,g3⟩ | h⟩
   ·exact ⟨_,rfl,.ready,none,_,rfl,by decide,vn,vd,by rw [hM],rfl,g2,g3⟩
   ·exact h.elim
 ·rintro l2 rec Dm pend B' ⟨vn,vd,rfl,rfl,g2,g3⟩
  show TX env _ _ _ _ _ _
  refine TX.im (dfrl_nil _) ?_
  refine TX.im (dfrl_push (D:=Dm) (Ds:=[]) fitA) ?_
  rw [← hM]
  generalize acc M = q at *
  repeat' first|refine lda (cs:=rrow q (vn,vd)) ?_|refine srz ?_ (hj:=Nat.le_of_ble_eq_true rfl)|refine sq ?_|refine rg ?_|refine xc ?_|refine nl ?_|refine rt ?_|refine xb ?_
  exact mca1 (Ds:=[Dm]) (cs:=rrow q (vn,vd)) (vs:=rrow q (vn,vd)) (T:=TRt) ⟨vn,vd,rfl,g2,g3,rfl⟩
end Go.Art
namespace Go.Art
open Go Go.Proofs Go.RowKit
theorem inQ_all (t:List Int) (k u j:Nat):(inQ t k u j).foldl (· + ·) 0 = evI t.length k (omg t k) u j:=by
 have:=inQ_sum t k u j t.length (Nat.le_refl _)
 rwa [List.take_of_length_le (by rw [inQ_len];exact Nat.le_refl _)] at this
theorem num_sign {q:Rat} (h:0 ≤ q) (h0:q ≠ 0):q.num.sign = 1∧0 < q.num:=by
 have h1:0 ≤ q.num:=Rat.num_nonneg.2 h
 have h2:q.num ≠ 0:=fun e=>h0 (Rat.num_eq_zero.1 e)
 have h3:0 < q.num:=by omega
 exact ⟨Int.sign_eq_one_of_pos h3,h3⟩
theorem two_mk (u:Nat):mkRat ((2:Nat):Int) u = 2 / (u:Rat):=by rw [Rat.mkRat_eq_div];rfl
theorem zero_mk:mkRat ((0:Nat):Int) 1 = 0:=by simp
theorem evI_le1 {t:List Int} {k u:Nat} (hz:solE t k = 0) (hu:u ≤ k) (h2:2 ≤ u):evI t.length k (omg t k) u 2 ≤ 1:=by
 have h1:=rowQ_le (m:=1) hz hu (by omega)
 simp only [List.range_succ,List.range_zero,List.nil_append,sR] at h1
 grind
attribute [local irreducible] Fit pt own ro vw mpc lpt vels rels mow lrc dfr
attribute [local irreducible] lmp lme mit velg relg bnd owl dfrl
abbrev plusV:Value:=.func (.func 265) #[] #[]
theorem in_tr (tv:Value) (htv:tv.oneCell' = true) (t:List Int) (k u j:Nat) (hz:solE t k = 0) (hk:k ≤ 40) (hl:t.length ≤ 12) (hu:u ≤ k) (hj:j ≤ u):Tr Tryz.prog 213 [tv,I k,I u,I j] [vw tv (Is t)] [] (FQ (evI t.length k (omg t k) u j)):=by
 obtain ⟨z1,z2,z3,z4⟩:=solE_zero hz
 have hT:=SoTotal_tr tv t (by omega) z3
 have hP:=cpair_tr 0 1 (by decide) (by decide) (by decide)
 rw [zero_mk] at hP
 have hseq:=fun p1 p2 p3 p4 p5=>in1_seq p1 p2 p3 p4 p5 tv t k u j hz hk hl hu hj
 have hfold:=fun p1 p2 p3 p4 p5 n1 d1 hn1 hd1=>cfold_tr 263 #[ptr p1,ptr p2,ptr p3,ptr p4,ptr p5] _ _ (inQ t k u j) (hseq p1 p2 p3 p4 p5) 0 n1 d1 hn1 hd1 (fun i hi=>by
  rw [inQ_len] at hi
  rw [inQ_get hi]
  exact (term_FB hz hk hl hu hi).le (by decide)) (fun i hi=>by
  rw [inQ_len] at hi
  rw [inQ_sum t k u j i hi]
  exact (evI_FB hz hk hl hu hi).le (by decide))
 simp only [inQ_all] at hfold
 unfold FQ at hfold hP ⊢
 generalize evI t.length k (omg t k) u j = q at *
 clear hseq z1 z2 z3 z4
 obtain ⟨z,hz0⟩ : ∃ z:Rat,z = 0:=⟨_,rfl⟩
 rw [← hz0] at hP hfold
 clear hz0
 refine Tr.enter env _ Tryz.func213 (by kernel_rfl) rfl Tryz.ntmps213 rfl (by repeat (first | exact has00 | refine has01 ?_)) fun w0=>?_
 refine TC.im (own_nil T64 _) ?_
 repeat' first|(refine gca ?_;first|(refine ca hT ?_;rintro _ _ ⟨rfl,rfl⟩)|(refine ca hP ?_;rintro _ _ ⟨n1,d1,rfl,hn1,hd1,rfl⟩))|refine bx1 fun b=>?_|refine al fun c=>?_|refine srz ?_|(refine wo ?_;first|refine oa ?_|refine ld ?_|refine sr ?_)|refine sq ?_|refine rg ?_|refine xc ?_|refine nl ?_
 rename_i c4 c5 c6 c8
 repeat' first|(refine cav (cap:=#[]) (vs:=[.func (.func 263) #[] #[ptr c4,ptr c,ptr c5,ptr c6,ptr b],rv z n1 d1,plusV]) (hfold c4 c c5 c6 b n1 d1 hn1 hd1) ?_ (hp:=has1 (lbd_of (has1 hasA (has1 hasA (has1 hasA (has1 hasA (has1 hasA (has1 hasA has0))))))) has0);rintro _ _ ⟨n2,d2,rfl,hn2,hd2,rfl⟩)|refine srz ?_|refine xc ?_|refine nl ?_|refine rt ?_
 exact rca1 (cs:=[.bool (decide (q.num < 0)),n2,d2]) (vs:=[.bool (decide (q.num < 0)),n2,d2]) (T:=TRt) ⟨n2,d2,rfl,hn2,hd2,rfl⟩
theorem row1_seq (pj pu pt' pk:Nat) (tv:Value) (htv:tv.oneCell' = true) (t:List Int) (k u j:Nat) (hz:solE t k = 0) (hk:k ≤ 40) (hl:t.length ≤ 12) (hu:u ≤ k) (hj:j ≤ 2) :
  SeqQ Tryz.prog 290 #[ptr pj,ptr pu,ptr pt',ptr pk] (lbd [lpt pu [I u] TLI,lpt pt' [tv] TLs,lpt pk [I k] TLI,vw tv (Is t)]) (pt pj [I j] TLI) (rowQ t k u j):=by
 refine ⟨fun {α} V hV l J pl S a0 h0 hnb hy=>?_⟩
 haveI:=hV
 haveI:∀ a,NoB (J a):=fun a=>⟨hnb a⟩
 refine Tr.pre (pre:=[V,lpt pu [I u] TLI,lpt pt' [tv] TLs,lpt pk [I k] TLI,vw tv (Is t)]) ?_ (has1 (has_mem (by simp)) (has_lbds (C:=[lpt pu [I u] TLI,lpt pt' [tv] TLs,lpt pk [I k] TLI,vw tv (Is t)]) (by simp) _ (by repeat (first | exact has00 | refine has01 ?_)) fun c hc=>hc)) (by repeat (first | exact has00 | refine has01 ?_))
 rw [rowQ_len] at hy ⊢
 have hin:=fun m (hm:m ≤ u)=>in_tr tv htv t k u m hz hk hl hu hm
 have hget:=fun i (hi:i < u + 1 - j)=>rowQ_get (t:=t) (k:=k) (u:=u) (j:=j) hi
 clear hz
 refine Tr.enter env _ Tryz.func290 (by kernel_rfl) rfl Tryz.ntmps290 rfl (by repeat (first | exact has00 | refine has01 ?_)) fun w0=>?_
 repeat' first|refine bk ?_
 refine TC.loop (ι:=InS α) (fun _=>[]) (fun g=>[pt pj [I ((j + g.i:Nat):Int)] TLI,J g.a]) (fun g=>g.i ≤ u + 1 - j∧pl g.a g.i) (fun g=>u + 1 - j - g.i) ⟨0,a0⟩ [0,1,2,3,4] ⟨Nat.zero_le _,h0⟩ ?_
 rintro ⟨i,a⟩ ⟨hi,ha⟩
 dsimp only at hi ha ⊢
 by_cases hlt:i < u + 1 - j
 ·have hN:=hin (j + i) (by omega)
  have hG:=hget i hlt
  have hyi:=fun v1 v2 h1 h2=>hy a i v1 v2 h1 h2 ha hlt
  rw [hG] at hyi
  unfold FQ at hN
  clear hin hget hG hy
  generalize evI t.length k (omg t k) u (j + i) = q at *
  repeat' first|(refine gca ?_;first|(refine ca hN ?_;rintro _ _ ⟨n1,d1,rfl,hn1,hd1,rfl⟩))|(refine cy (hyi n1 d1 hn1 hd1) ?_ (hp:=has1 (has_mem memA) has0);rintro ok _ ⟨a2,rfl,⟨rfl,h3⟩ | ⟨rfl,h3⟩⟩)|(refine aw (m:=((j + (i + 1):Nat):Int)) ?_)|(refine wo ?_;first|(refine ao ?_;first|refine oa ?_)|refine oa ?_|refine ld ?_|refine ldl ?_|refine sr ?_|refine gy ?_|(refine gsi (fun hB=>?_) (fun hB=>?_) <;> try (exfalso;omega)))|(refine gc ?_;first|refine ct ?_|refine cf ?_)|refine sq ?_|refine rg ?_|refine xc ?_|refine nl ?_|refine sk ?_|refine bk ?_|refine xe ?_|refine xb ?_
  ·exact lp ⟨i + 1,a2⟩ ⟨hlt,h3⟩
  ·exact e0 ⟨a2,rfl,.inr h3⟩
 ·obtain rfl:i = u + 1 - j:=by omega
  repeat' first|(refine wo ?_;first|(refine ao ?_;first|refine oa ?_)|refine oa ?_|refine ld ?_|refine ldl ?_|refine gn ?_|(refine gsi (fun hB=>?_) (fun hB=>?_) <;> try (exfalso;omega)))|(refine gc ?_;first|refine cf ?_)|refine sq ?_|refine rg ?_|refine xc ?_|refine nl ?_|refine xe ?_
  exact e0 ⟨a,rfl,.inl ha⟩
theorem row_tr (tv:Value) (htv:tv.oneCell' = true) (k u j:Int):Tr Tryz.prog 266 [tv,I k,I u,I j] [] [] fun v D=>∃ pj pu pt' pk,v = .func (.func 290) #[] #[ptr pj,ptr pu,ptr pt',ptr pk]∧D = [pt pj [I j] TLI,pt pu [I u] TLI,pt pk [I k] TLI,pt pt' [tv] TLs]:=by
 refine Tr.enter env _ Tryz.func266 (by kernel_rfl) rfl Tryz.ntmps266 rfl (by repeat (first | exact has00 | refine has01 ?_)) fun w0=>?_
 repeat' first|refine bx1 fun b=>?_|(refine wo ?_;first|refine oa ?_)|refine sq ?_|refine rg ?_|refine xc ?_|refine nl ?_|refine rt ?_
 exact r1 ⟨_,_,_,_,rfl,rfl⟩
theorem Cloud_tr (tv:Value) (htv:tv.oneCell' = true) (t:List Int) (k u:Nat) (hz:solE t k = 0) (hk:k ≤ 40) (hl:t.length ≤ 12) (hu:u ≤ k):Tr Tryz.prog 216 [tv,I k,I u] [vw tv (Is t)] [] (FQ2 (evQ t.length k (omg t k) u) 0):=by
 have hR:=crefuses_tr tv t k u hz (by omega) hu
 have hP:=cpair_tr 0 1 (by decide) (by decide) (by decide)
 rw [zero_mk] at hP
 have hW:=row_tr tv htv (k:Int) (u:Int) 2
 have hseq:=fun p1 p2 p3 p4=>row1_seq p1 p2 p3 p4 tv htv t k u 2 hz hk hl hu (by decide)
 have hO:=oneS_lt hz hk hl
 have hfold:=fun p1 p2 p3 p4 n1 d1 hn1 hd1=>cfold_tr 290 #[ptr p1,ptr p2,ptr p3,ptr p4] _ _ (rowQ t k u 2) (hseq p1 p2 p3 p4) 0 n1 d1 hn1 hd1 (fun i hi=>by
  rw [rowQ_len] at hi
  rw [rowQ_get hi]
  exact (evI_FB hz hk hl hu (Nat.le_refl _)).le (by decide)) (fun i hi=>by
  rw [rowQ_len] at hi
  rw [rowQ_sum t k u 2 i hi]
  exact (FB_le1 (FrQ.sum fun j _=>evI_fr t.length k _ (oneS t k) u (2 + j)) (oneS_pos hz) (rowQ_le hz hu (by omega)) hO).le (by decide))
 simp only [rowQ_evQ] at hfold
 unfold FQ at hfold hP
 unfold FQ2
 generalize evQ t.length k (omg t k) u = q at *
 clear hseq hO
 obtain ⟨z,hz0⟩ : ∃ z:Rat,z = 0:=⟨_,rfl⟩
 rw [← hz0] at hP hfold
 clear hz0 hz
 refine Tr.enter env _ Tryz.func216 (by kernel_rfl) rfl Tryz.ntmps216 rfl (by repeat (first | exact has00 | refine has01 ?_)) fun w0=>?_
 repeat' first|(refine gca ?_;first|(refine ca hR ?_;rintro _ _ ⟨rfl,rfl⟩)|(refine ca hW ?_;rintro _ _ ⟨pj,pu,pt',pk,rfl,rfl⟩)|(refine ca hP ?_;rintro _ _ ⟨n1,d1,rfl,hn1,hd1,rfl⟩))|refine al fun c=>?_|(refine cav (cap:=#[]) (vs:=[.func (.func 290) #[] #[ptr pj,ptr pu,ptr pt',ptr pk],rv z n1 d1,plusV]) (hfold pj pu pt' pk n1 d1 hn1 hd1) ?_ (hp:=has1 (lbd_of (has1 hasA (has1 hasA (has1 hasA (has1 hasA has0))))) has0);rintro _ _ ⟨n2,d2,rfl,hn2,hd2,rfl⟩)|refine srz ?_|(refine wo ?_;first|(refine ao ?_;first|refine oa ?_)|refine oa ?_)|(refine gc ?_;first|refine cf ?_)|refine sq ?_|refine rg ?_|refine xc ?_|refine nl ?_|refine sk ?_|refine rt ?_
 exact rca (cs:=[.bool (decide (q.num < 0)),n2,d2]) (vs:=[.bool (decide (q.num < 0)),n2,d2]) (T:=TRt) ⟨n2,d2,rfl,hn2,hd2,rfl⟩
theorem In_tr (tv:Value) (htv:tv.oneCell' = true) (t:List Int) (k u j:Nat) (hz:solE t k = 0) (hk:k ≤ 40) (hl:t.length ≤ 12) (hu:u ≤ k) (hj:j ≤ u):Tr Tryz.prog 167 [tv,I k,I u,I j] [vw tv (Is t)] [] (FQ2 (evI t.length k (omg t k) u j) 0):=by
 have hR:=crefuses_tr tv t k u hz (by omega) hu
 have hI:=in_tr tv htv t k u j hz hk hl hu hj
 unfold FQ at hI
 unfold FQ2
 generalize evI t.length k (omg t k) u j = q at *
 refine Tr.enter env _ Tryz.func167 (by kernel_rfl) rfl Tryz.ntmps167 rfl (by repeat (first | exact has00 | refine has01 ?_)) fun w0=>?_
 repeat' first|(refine gca ?_;first|(refine ca hR ?_;rintro _ _ ⟨rfl,rfl⟩)|(refine ca hI ?_;rintro _ _ ⟨n2,d2,rfl,hn2,hd2,rfl⟩))|refine al fun c=>?_|refine srz ?_|(refine wo ?_;first|(refine ao ?_;first|refine oa ?_)|refine oa ?_|refine gy ?_)|(refine gc ?_;first|refine cf ?_|(refine ci (fun hB=>?_) (fun hB=>?_) <;> try (exfalso;omega)))|refine sq ?_|refine rg ?_|refine xc ?_|refine nl ?_|refine sk ?_|refine rt ?_
 exact rca (cs:=[.bool (decide (q.num < 0)),n2,d2]) (vs:=[.bool (decide (q.num < 0)),n2,d2]) (T:=TRt) ⟨n2,d2,rfl,hn2,hd2,rfl⟩
theorem Free_tr (tv:Value) (htv:tv.oneCell' = true) (t:List Int) (k u:Nat) (hz:solE t k = 0) (hk:k ≤ 40) (hl:t.length ≤ 12) (h1:1 ≤ u) (hu:u ≤ k):Tr Tryz.prog 170 [tv,I k,I u] [vw tv (Is t)] [] (FQ2 (fT t k u) 0):=by
 have hC:=Cloud_tr tv htv t k u hz hk hl hu
 have hO:=oneS_lt hz hk hl
 have hO0:=oneS_pos hz
 have hQ1:=evQ_le (m:=t.length) (k:=k) (ω:=omg t k) (fun i _=>omg_nonneg t k i) (tabX_one hz) hu
 have hQ0:=evQ_nonneg (m:=t.length) (k:=k) (ω:=omg t k) (fun i _=>omg_nonneg t k i) u
 have hQF:=evQ_fr t.length k (fun i=>wS t k (i + 1)) (oneS t k) u
 have hQB:FB (evQ t.length k (omg t k) u) 10:=FB_le1 hQF hO0 hQ1 hO
 have hS:=fun o ho=>ISign_tr (evQ t.length k (omg t k) u).num o ho (by have:=hQB.1;omega)
 unfold FQ2 at hC
 by_cases he:evQ t.length k (omg t k) u = 0
 ·have hf:fT t k u = evQ t.length k (omg t k) u:=by unfold fT freeR;rw [if_pos he,he]
  rw [hf]
  have hs:(evQ t.length k (omg t k) u).num.sign = 0:=by rw [he];rfl
  rw [hs] at hS
  unfold FQ2
  unfold iv at hS
  generalize evQ t.length k (omg t k) u = q at *
  clear hQF hQB hQ1 hQ0 he hs hf hO hz
  refine Tr.enter env _ Tryz.func170 (by kernel_rfl) rfl Tryz.ntmps170 rfl (by repeat (first | exact has00 | refine has01 ?_)) fun w0=>?_
  repeat' first|(refine gca ?_;first|(refine ca hC ?_;rintro _ _ ⟨n1,d1,rfl,hn1,hd1,rfl⟩)|(refine ca (hS n1 hn1) ?_;rintro _ _ ⟨rfl,rfl⟩))|refine al fun c=>?_|refine srz ?_|refine lda (vs:=[.bool (decide (q.num < 0)),n1]) ?_|refine lda ?_|(refine wo ?_;first|(refine ao ?_;first|refine oa ?_)|refine oa ?_)|(refine gc ?_;first|refine ct ?_|refine cf ?_|(refine ci (fun hB=>?_) (fun hB=>?_) <;> try (exfalso;omega)))|refine sq ?_|refine rg ?_|refine xc ?_|refine nl ?_|refine bk ?_|refine rt ?_
  exact rca (cs:=[.bool (decide (q.num < 0)),n1,d1]) (vs:=[.bool (decide (q.num < 0)),n1,d1]) (T:=TRt) ⟨n1,d1,rfl,hn1,hd1,rfl⟩
 ·have hu2:2 ≤ u:=by
   rcases Nat.lt_or_ge u 2 with h | h
   ·exact absurd (by rw [evQ_sum,show u - 1 = 0 by omega];rfl) he
   ·exact h
  obtain ⟨hs,hpos⟩:=num_sign hQ0 he
  rw [hs] at hS
  have hP:=cpair_tr 2 u (by decide) (by omega) (by omega)
  have hI:=in_tr tv htv t k u 2 hz hk hl hu hu2
  have hIB:=(evI_FB (j:=2) hz hk hl hu (Nat.le_refl _)).le (show 12 ≤ 8589934592 by decide)
  have hF1:FB (mkRat ((2:Nat):Int) u) 8589934592:=(FB_mk1 (by omega) (by decide) (by omega)).le (by decide)
  have hMul:=fun lv v1 v2 v3 v4=>FMul2_tr (mkRat ((2:Nat):Int) u) (evI t.length k (omg t k) u 2) lv v1 v2 v3 v4 hF1 hIB
  have hXB:FB (mkRat ((2:Nat):Int) u * evI t.length k (omg t k) u 2) 12:=by
   obtain ⟨a,ha,hq⟩:=(evI_fr t.length k (fun i=>wS t k (i + 1)) (oneS t k) u 2).le hO0 (evI_le1 hz hu hu2)
   have e:mkRat ((2:Nat):Int) u * evI t.length k (omg t k) u 2 = ((2 * a:Nat):Rat) / ((u * oneS t k:Nat):Rat):=by
    rw [hq,two_mk]
    have z1:=nz hO0
    have z2:=nz (show u ≠ 0 by omega)
    push_cast;grind
   rw [e]
   refine FB_nat (Nat.mul_ne_zero (by omega) hO0) ?_ ?_
   ·exact Nat.lt_of_le_of_lt (Nat.mul_le_mul_left 2 (Nat.le_trans ha (Nat.le_of_lt hO))) (by decide)
   ·exact Nat.lt_of_le_of_lt (Nat.mul_le_mul (show u ≤ 40 by omega) (Nat.le_of_lt hO)) (by decide)
  have hDiv:=fun v1 v2 v3 v4 h1 h2 h3 h4=>FDiv_tr (mkRat ((2:Nat):Int) u * evI t.length k (omg t k) u 2) (evQ t.length k (omg t k) u) v1 v2 v3 v4 h1 h2 h3 h4 (hXB.le (by decide)) (hQB.le (by decide)) hpos
  have hf:fT t k u = mkRat ((2:Nat):Int) u * evI t.length k (omg t k) u 2 / evQ t.length k (omg t k) u:=by
   unfold fT freeR;rw [if_neg he,two_mk]
  rw [← hf] at hDiv
  unfold FQ at hP hI
  unfold FQ2 at hMul hDiv ⊢
  unfold iv at hS
  clear hf hXB hIB hF1 hQF hQB hQ1 hQ0 he hs hpos hO
  obtain ⟨x,hx⟩ : ∃ x,x = mkRat ((2:Nat):Int) u * evI t.length k (omg t k) u 2:=⟨_,rfl⟩
  rw [← hx] at hMul hDiv
  clear hx
  generalize mkRat ((2:Nat):Int) u = q1 at *
  generalize evI t.length k (omg t k) u 2 = q2 at *
  generalize fT t k u = f at *
  generalize evQ t.length k (omg t k) u = q at *
  refine Tr.enter env _ Tryz.func170 (by kernel_rfl) rfl Tryz.ntmps170 rfl (by repeat (first | exact has00 | refine has01 ?_)) fun w0=>?_
  repeat' first|(refine gca ?_;first|(refine ca hC ?_;rintro _ _ ⟨n1,d1,rfl,hn1,hd1,rfl⟩)|(refine ca (hS n1 hn1) ?_;rintro _ _ ⟨rfl,rfl⟩)|(refine ca hP ?_;rintro _ _ ⟨n2,d2,rfl,hn2,hd2,rfl⟩)|(refine ca hI ?_;rintro _ _ ⟨n3,d3,rfl,hn3,hd3,rfl⟩)|(refine ca (hMul _ n2 d2 n3 d3) ?_ (hp:=has1 (has_oww memA) (has1 hasA (has1 hasA (has1 hasA (has1 hasA has0)))));rintro _ _ ⟨n4,d4,rfl,hn4,hd4,rfl⟩)|(refine ca (hDiv n4 d4 n1 d1 hn4 hd4 hn1 hd1) ?_;rintro _ _ ⟨n5,d5,rfl,hn5,hd5,rfl⟩))|refine al fun c=>?_|refine srz ?_|refine lda (vs:=[.bool (decide (q.num < 0)),n1]) ?_|refine lda ?_|refine slws (sz:=3) (xs:=rrow q1 (n2,d2) ++ rrow q2 (n3,d3)) (fun g2=>?_)|(refine wo ?_;first|(refine ao ?_;first|refine oa ?_)|refine oa ?_)|(refine gc ?_;first|refine cf ?_|(refine ci (fun hB=>?_) (fun hB=>?_) <;> try (exfalso;omega)))|refine sq ?_|refine rg ?_|refine xc ?_|refine nl ?_|refine sk ?_|refine bk ?_|refine rt ?_|refine xb ?_
  exact rca (cs:=[.bool (decide (f.num < 0)),n5,d5]) (vs:=[.bool (decide (f.num < 0)),n5,d5]) (T:=TRt) ⟨n5,d5,rfl,hn5,hd5,rfl⟩
end Go.Art
namespace Go.Art
open Go Go.Proofs Go.RowKit
abbrev HV:=Value × Value
def gpc (q:Rat):Option HV→Ch
 | none=>bnd []
 | some h=>bnd [own T64 h.1 (Us (dg q.num.natAbs)),own T64 h.2 (Us (dg q.den))]
def gps (es:List (Option HV)) (qs:List Rat):List Ch:=List.zipWith (fun e q=>gpc q e) es qs
def gow (es:List (Option HV)) (qs:List Rat):Ch:=bnd (gps es qs)
def hsE (z:HV) (es:List (Option HV)):List HV:=es.map fun e=>e.getD z
theorem hsE_len (z:HV) (es:List (Option HV)):(hsE z es).length = es.length:=by simp [hsE]
theorem hsE_get {z:HV} {es:List (Option HV)} {i:Nat} (h:i < es.length):(hsE z es).getD i nS2 = (es.getD i none).getD z:=by simp [hsE,List.getD_eq_getElem?_getD,h]
theorem hsE_set (z:HV) (es:List (Option HV)) (i:Nat) (h:HV):hsE z (es.set i (some h)) = (hsE z es).set i h:=by unfold hsE;rw [List.map_set];rfl
theorem hsE_none (z:HV) (N:Nat):hsE z (List.replicate N none) = List.replicate N z:=by simp [hsE]
theorem gpc_nb (q:Rat):∀ e:Option HV,∀ b,¬ (gpc q e).bd b
 | none=>bnd_nob fun _ h=>nomatch h
 | some h=>bnd_nob (nb1 (nb1 nb0))
theorem gps_mem {c:Ch}:∀ {es:List (Option HV)} {qs:List Rat},c ∈ gps es qs→∃ q e,c = gpc q e
 | [],_,h=>nomatch h
 | _ :: _,[],h=>nomatch h
 | e :: es,q :: qs,h=>by
  rcases List.mem_cons.1 h with h | h
  ·exact ⟨q,e,h⟩
  ·exact gps_mem (es:=es) (qs:=qs) h
theorem gow_nb (es:List (Option HV)) (qs:List Rat):∀ b,¬ (gow es qs).bd b:=bnd_nob fun c hc=>by
 obtain ⟨q,e,rfl⟩:=gps_mem hc
 exact gpc_nb _ _
instance (es:List (Option HV)) (qs:List Rat):NoB (gow es qs):=⟨gow_nb es qs⟩
theorem gps_len {es:List (Option HV)} {qs:List Rat} (h:es.length = qs.length):(gps es qs).length = qs.length:=by simp [gps];omega
theorem gps_get {es:List (Option HV)} {qs:List Rat} {i:Nat} (h1:i < es.length) (h2:i < qs.length):(gps es qs)[i]? = some (gpc (qs.getD i 0) (es.getD i none)):=by
 unfold gps
 rw [List.getElem?_zipWith,List.getElem?_eq_getElem h1,List.getElem?_eq_getElem h2]
 simp [List.getD_eq_getElem?_getD,h1,h2]
theorem gps_set {e:Option HV} {q:Rat}:∀ {es:List (Option HV)} {qs:List Rat} {i:Nat},(gps es qs).set i (gpc q e) = gps (es.set i e) (qs.set i q)
 | [],qs,i=>by simp [gps]
 | a :: es,[],i=>by simp [gps]
 | a :: es,b :: qs,0=>by simp [gps]
 | a :: es,b :: qs,i + 1=>by
  have:=gps_set (e:=e) (q:=q) (es:=es) (qs:=qs) (i:=i)
  simpa [gps] using this
theorem gow_none (F:List Ch):∀ (N:Nat) (qs:List Rat),Im F (gow (List.replicate N none) qs :: F)
 | 0,qs=>bnd_nil F
 | N + 1,[]=>bnd_nil F
 | N + 1,q :: qs=>(gow_none F N qs).trans ((bnd_nil _).trans (bnd_cons (bnd []) (gps (List.replicate N none) qs) F))
theorem im_swap3 (a b c:Ch) (F:List Ch):Im (a :: b :: c :: F) (c :: a :: b :: F):=Im.perm (by
 have:([a,b] ++ c :: F).Perm (c :: ([a,b] ++ F)):=List.perm_middle
 exact this)
theorem gow_set {es:List (Option HV)} {qs:List Rat} (hl:es.length = qs.length) {i:Nat} (hi:i < qs.length) (q:Rat) (v1 v2:Value) {A F:List Ch} (hf:Fit A [own T64 v1 (Us (dg q.num.natAbs)),own T64 v2 (Us (dg q.den)),gow es qs] F):Im A (gow (es.set i (some (v1,v2))) (qs.set i q) :: F):=by
 refine Im.trans hf ?_
 show Im (own T64 v1 (Us (dg q.num.natAbs)) :: own T64 v2 (Us (dg q.den)) :: gow es qs :: F) _
 refine (im_swap3 _ _ _ F).trans ?_
 refine (bnd_take (gps_get (by omega) hi) _).trans ?_
 refine (Im.tail _ _).trans ?_
 refine (Im.perm (show List.Perm (bnd ((gps es qs).eraseIdx i) :: own T64 v1 (Us (dg q.num.natAbs)) :: own T64 v2 (Us (dg q.den)) :: F) ([own T64 v1 (Us (dg q.num.natAbs)),own T64 v2 (Us (dg q.den))] ++ bnd ((gps es qs).eraseIdx i) :: F) from (List.perm_middle (l₁:=[own T64 v1 (Us (dg q.num.natAbs)),own T64 v2 (Us (dg q.den))])).symm)).trans ?_
 refine (im_bnd [own T64 v1 (Us (dg q.num.natAbs)),own T64 v2 (Us (dg q.den))] _).trans ?_
 have:=bnd_put (C:=gps es qs) (i:=i) (gpc q (some (v1,v2))) (by rw [gps_len hl];exact hi) F
 rw [gps_set] at this
 exact this
theorem has_bndI {F C:List Ch} {c d:Ch} (h:Has F (bnd C)∨bnd C ∈ F) (hd:d ∈ C) (hc:Has [d] c):Has F c:=by
 have hP:∀ w,Sat F w→Sat C w:=fun w hw=>by
  rcases h with h | h
  ·exact h.P w hw
  ·exact hw.h _ h
 have hft:∀ b,fts C b→fts F b:=fun b hb=>by
  rcases h with h | h
  ·exact h.ft b (bnd_ft.2 hb)
  ·exact ⟨_,h,bnd_ft.2 hb⟩
 exact ⟨fun w hw=>hc.P w (Sat.one ((hP w hw).h d hd)),hc.wr,hc.rd,fun b hb=>by
  obtain ⟨x,hx,hf⟩:=hc.ft b hb
  obtain rfl:x = d:=by simpa using hx
  exact hft b ⟨x,hd,hf⟩⟩
structure Grd (n:Nat) (es:List (Option HV)) (qs:List Rat):Prop where
 el:es.length = (n + 1) * (n + 1)
 ql:qs.length = (n + 1) * (n + 1)
 z:∀ i,i < (n + 1) * (n + 1)→es.getD i none = none→qs.getD i 0 = 0
theorem has_gow {F:List Ch} {n:Nat} {es:List (Option HV)} {qs:List Rat} {z:HV} (hg:Grd n es qs) (h:gow es qs ∈ F) (hz1:Has F (vw z.1 (Us (dg (0:Rat).num.natAbs)))) (hz2:Has F (vw z.2 (Us (dg (0:Rat).den)))) {i:Nat} (hi:i < (n + 1) * (n + 1)) :
  Has F (vw ((hsE z es).getD i nS2).1 (Us (dg (qs.getD i 0).num.natAbs)))∧Has F (vw ((hsE z es).getD i nS2).2 (Us (dg (qs.getD i 0).den))):=by
 rw [hsE_get (by rw [hg.el];exact hi)]
 cases he:es.getD i none with
 | none=>
  rw [hg.z i hi he]
  exact ⟨hz1,hz2⟩
 | some p=>
  have h1:=gps_get (es:=es) (qs:=qs) (i:=i) (by rw [hg.el];exact hi) (by rw [hg.ql];exact hi)
  rw [he] at h1
  have h2:Has F (vw p.1 (Us (dg (qs.getD i 0).num.natAbs))):=has_bndI (.inr h) (List.mem_of_getElem? h1) (has_bndI (.inr (List.mem_singleton.2 rfl)) (List.Mem.head _) (has_own (List.mem_singleton.2 rfl)))
  have h3:Has F (vw p.2 (Us (dg (qs.getD i 0).den))):=has_bndI (.inr h) (List.mem_of_getElem? h1) (has_bndI (.inr (List.mem_singleton.2 rfl)) (List.Mem.tail _ (List.Mem.head _)) (has_own (List.mem_singleton.2 rfl)))
  exact ⟨h2,h3⟩
theorem has_vfr_of {F:List Ch}:∀ {hs:List HV} {qs:List Rat},hs.length = qs.length→(∀ i,i < qs.length→Has F (vw (hs.getD i nS2).1 (Us (dg (qs.getD i 0).num.natAbs)))∧Has F (vw (hs.getD i nS2).2 (Us (dg (qs.getD i 0).den))))→Has F (vfr hs qs)
 | [],[],_,_=>has_vfr_nil
 | [],_ :: _,h,_=>by simp at h
 | _ :: _,[],h,_=>by simp at h
 | (v1,v2) :: hs,q :: qs,h,H=>has_vfr_cons (H 0 (by simp)).1 (H 0 (by simp)).2 (has_vfr_of (by simpa using h) fun i hi=>by
  have:=H (i + 1) (by simpa using hi)
  simpa [List.getD_eq_getElem?_getD] using this)
theorem has_gvfr {F:List Ch} {n:Nat} {es:List (Option HV)} {qs:List Rat} {z:HV} (hg:Grd n es qs) (h:gow es qs ∈ F) (hz1:Has F (vw z.1 (Us (dg (0:Rat).num.natAbs)))) (hz2:Has F (vw z.2 (Us (dg (0:Rat).den)))):Has F (vfr (hsE z es) qs):=
 has_vfr_of (by rw [hsE_len,hg.el,hg.ql]) fun i hi=>has_gow hg h hz1 hz2 (by rw [hg.ql] at hi;exact hi)
theorem Grd.set {n:Nat} {es:List (Option HV)} {qs:List Rat} (h:Grd n es qs) {i:Nat} (hi:i < (n + 1) * (n + 1)) (q:Rat) (p:HV):Grd n (es.set i (some p)) (qs.set i q):=by
 refine ⟨by rw [List.length_set,h.el],by rw [List.length_set,h.ql],fun j hj he=>?_⟩
 rw [getD_setR _ _ _ _ (by rw [h.ql];exact hi)]
 by_cases e:j = i
 ·subst e
  have:(es.set j (some p)).getD j none = some p:=by rw [List.getD_eq_getElem?_getD,List.getElem?_set_self (by rw [h.el];exact hi)];rfl
  rw [this] at he;cases he
 ·rw [if_neg e]
  refine h.z j hj ?_
  rwa [List.getD_eq_getElem?_getD,List.getElem?_set_ne (Ne.symm e),← List.getD_eq_getElem?_getD] at he
theorem Grd.none (n:Nat):Grd n (List.replicate ((n + 1) * (n + 1)) none) (List.replicate ((n + 1) * (n + 1)) 0):=⟨by simp,by simp,fun i _ _=>getD_repl _ i⟩
structure SeqP (P:Program) (f:FuncId) (cap:Array Value) (U:Ch) (n:Nat) (qs:List Rat) (hs:List HV):Prop where
 run:∀ {α:Type} (V:Ch) [Lent V] (l:Nat) (J:α→Ch) (pl:α→Nat→Prop) (S:α→Prop) (a0:α),pl a0 0→(∀ a b,¬ (J a).bd b) →
  (∀ a i,pl a i→i < (n + 1) * (n + 1)→Ty P l [.agg #[I ((i / (n + 1):Nat):Int),I ((i % (n + 1):Nat):Int)],rv (qs.getD i 0) (hs.getD i nS2).1 (hs.getD i nS2).2] [V] [J a] fun ok B=>∃ a',B = [J a']∧((ok = true∧pl a' (i + 1))∨(ok = false∧S a'))) →
  Tr P f (yv l :: cap.toList) [V,U] [J a0] fun _ B=>∃ a,B = [J a]∧(pl a ((n + 1) * (n + 1))∨S a)
abbrev gV (n:Nat) (v:Value):Value:=.agg #[I (n:Int),v]
theorem rcs_setE {n:Nat} {z:HV} {es:List (Option HV)} {qs:List Rat} (h:Grd n es qs) {i:Nat} (hi:i < (n + 1) * (n + 1)) (q:Rat) (p:HV):(rcs qs (hsE z es)).take (3 * i) ++ rrow q p ++ (rcs qs (hsE z es)).drop (3 * i + 3) = rcs (qs.set i q) (hsE z (es.set i (some p))):=by
 rw [rcs_set (by rw [hsE_len,h.el,h.ql]) (by rw [h.ql];exact hi),hsE_set]
attribute [local irreducible] Fit pt own ro vw mpc lpt vels rels mow lrc dfr
attribute [local irreducible] lmp lme mit velg relg bnd owl dfrl gow
abbrev TGr:TypeId:=80
theorem whole_tr (x:Nat) (hx:x < 9223372036854775808):Tr Tryz.prog 58 [I x] [] [] (FQ (mkRat x 1)):=by
 have hP:=FPair_tr x 1 hx (by decide) (by decide)
 unfold FQ2 at hP
 unfold FQ
 have e1:((1:Nat):Int) = 1:=rfl
 rw [e1] at hP
 generalize mkRat (x:Int) 1 = q at *
 refine Tr.enter env _ Tryz.func58 (by kernel_rfl) rfl Tryz.ntmps58 rfl (by repeat (first | exact has00 | refine has01 ?_)) fun w0=>?_
 repeat' first|(refine gca ?_;first|(refine ca hP ?_;rintro _ _ ⟨vn,vd,rfl,hvn,hvd,rfl⟩))|refine al fun c=>?_|refine srz ?_|refine lda ?_|(refine wo ?_;first|refine oa ?_)|refine sq ?_|refine rg ?_|refine xc ?_|refine nl ?_|refine rt ?_
 exact rca1 (cs:=[.bool (decide (q.num < 0)),vn,vd]) (vs:=[.bool (decide (q.num < 0)),vn,vd]) (T:=TRt) ⟨vn,vd,rfl,hvn,hvd,rfl⟩
theorem some_tr (q:Rat) (v1 v2:Value) (h1:v1.oneCell' = true) (hB:(dg q.num.natAbs).length ≤ 1099511627776):Tr Tryz.prog 68 [rv q v1 v2] [vw v1 (Us (dg q.num.natAbs))] [] fun u D=>u = .bool (decide (q ≠ 0))∧D = []:=by
 have hS:=ISign_tr q.num v1 h1 hB
 have he:(!decide (q.num.sign = 0)) = decide (q ≠ 0):=by
  by_cases h:q = 0
  ·subst h;rfl
  ·have h2:q.num.sign ≠ 0:=fun e=>h (Rat.num_eq_zero.1 (Int.sign_eq_zero_iff_zero.1 e))
   rw [decide_eq_false h2,decide_eq_true h];rfl
 rw [← he]
 unfold iv at hS
 show Tr _ _ [.agg #[.bool (decide (q.num < 0)),v1,v2]] _ _ _
 clear he hB
 generalize q.num.sign = s at *
 generalize dg q.num.natAbs = l at *
 generalize decide (q.num < 0) = b at *
 refine Tr.enter env _ Tryz.func68 (by kernel_rfl) rfl Tryz.ntmps68 rfl (by repeat (first | exact has00 | refine has01 ?_)) fun w0=>?_
 repeat' first|(refine gca ?_;first|(refine ca hS ?_;rintro _ _ ⟨rfl,rfl⟩))|refine bx fun b1=>?_|refine lda (vs:=[.bool b,v1]) ?_|(refine wo ?_;first|(refine ao ?_;first|refine oa ?_)|refine oa ?_)|refine sq ?_|refine rg ?_|refine xc ?_|refine nl ?_|refine rt ?_
 exact r1 ⟨rfl,rfl⟩
theorem gat_tr (n:Nat) (v:Value) (xs:List Value) (i k:Nat) (hv:v.oneCell' = true) (hn:n ≤ 12) (hi:i ≤ n) (hk:k ≤ n):Tr Tryz.prog 169 [gV n v,I i,I k] [vwf v ((n + 1) * (n + 1)) xs] [] fun u D=>u = .pointer (some (adr v (3 * (i * (n + 1) + k))))∧D = []:=by
 have h1:(i:Int) * ((n:Int) + 1) = ((i * (n + 1):Nat):Int):=by push_cast;rfl
 have h2:=place_lt hi hk
 have h3:i * (n + 1) ≤ 12 * 13:=Nat.mul_le_mul (by omega) (by omega)
 have h4:(((i * (n + 1):Nat):Int) + (k:Int)) = ((i * (n + 1) + k:Nat):Int):=by push_cast;rfl
 have h5:(((i * (n + 1) + k:Nat):Int)).toNat = i * (n + 1) + k:=Int.toNat_natCast _
 generalize i * (n + 1) = m at *
 generalize (n + 1) * (n + 1) = N at *
 refine Tr.enter env _ Tryz.func169 (by kernel_rfl) rfl Tryz.ntmps169 rfl (by repeat (first | exact has00 | refine has01 ?_)) fun w0=>?_
 repeat' first|refine bx fun b1=>?_|(refine aw (m:=(m:Int)) ?_ (h:=by rw [← h1];rfl))|(refine ixws (i:=((m + k:Nat):Int)) (N:=N) (xs:=xs) ?_;rw [h5])|(refine wo ?_;first|(refine ao ?_;first|refine aw ?_)|refine oa ?_|refine ld ?_)|refine sq ?_|refine rg ?_|refine xc ?_|refine nl ?_|refine rt ?_
 exact r1 ⟨rfl,rfl⟩
end Go.Art
namespace Go.Art
open Go Go.Proofs Go.RowKit
theorem grid_row {n:Nat} {hs:List HV} {qs:List Rat} (h1:hs.length = qs.length) (h2:qs.length = (n + 1) * (n + 1)) {i:Nat} (hi:i < (n + 1) * (n + 1)):((rcs qs hs).drop (3 * i)).take 3 = rrow (qs.getD i 0) (hs.getD i nS2):=rcs_row h1 (by rw [h2];exact hi)
attribute [local irreducible] Fit pt own ro vw mpc lpt vels rels mow lrc dfr
attribute [local irreducible] lmp lme mit velg relg bnd owl dfrl gow
theorem made_tr (n N:Nat) (q:Rat) (z1 z2:Value) (h1:z1.oneCell' = true) (h2:z2.oneCell' = true) (hN:(n + 1) * (n + 1) = N) (hn:n ≤ 12):Tr Tryz.prog 166 [I n,rv q z1 z2] [] []
  fun u D=>∃ v,u = gV n v∧v.oneCell' = true∧D = [oww TRt 3 v N (rcs (List.replicate N q) (List.replicate N (z1,z2)))]:=by
 have hNi:((n:Int) + 1) * ((n:Int) + 1) = (N:Int):=by rw [← hN];push_cast;rfl
 have hNb:N ≤ 169:=by rw [← hN];exact Nat.mul_le_mul (show n + 1 ≤ 13 by omega) (show n + 1 ≤ 13 by omega)
 have hrep:∀ i m,(rcs (List.replicate i q) (List.replicate i (z1,z2)) ++ zrs (m + 1)).take (3 * i) ++ rrow q (z1,z2) ++ (rcs (List.replicate i q) (List.replicate i (z1,z2)) ++ zrs (m + 1)).drop (3 * i + 3) = rcs (List.replicate (i + 1) q) (List.replicate (i + 1) (z1,z2)) ++ zrs m:=fun i m=>by
  have:=rcs_fill (qs:=List.replicate i q) (hs:=List.replicate i (z1,z2)) (by simp) m q (z1,z2)
  rw [List.length_replicate] at this
  rw [this,List.replicate_succ',List.replicate_succ']
 have hr0:rcs (List.replicate 0 q) (List.replicate 0 (z1,z2)) = []:=rfl
 refine Tr.enter env _ Tryz.func166 (by kernel_rfl) rfl Tryz.ntmps166 rfl (by repeat (first | exact has00 | refine has01 ?_)) fun w0=>?_
 repeat' first|refine bx fun b=>?_|refine al fun c=>?_|(refine aw (m:=(N:Int)) ?_ (h:=by rw [← hNi];rfl))|(refine mkw (sz:=3) (c:=(N:Int)) (fun v hv=>?_);rw [Int.toNat_natCast,zrs_eq])|refine bdm ?_|refine srz ?_|refine lnw (N:=N) (xs:=zrs N) ?_ (hm:=has_oww memA)|(refine wo ?_;first|(refine ao ?_;first|refine aw ?_)|refine oa ?_|refine ld ?_)|refine sq ?_|refine rg ?_|refine xc ?_|refine nl ?_|refine bk ?_
 rename_i c4
 refine TC.loop (ι:=Nat) (fun i=>[(18,I i)]) (fun i=>[oww TRt 3 v N (rcs (List.replicate i q) (List.replicate i (z1,z2)) ++ zrs (N - i))]) (fun i=>i ≤ N) (fun i=>N - i) 0 [3,4,5,17] (Nat.zero_le _) ?_ (hf:=by rw [hr0,List.nil_append,Nat.sub_zero];exact fitA)
 rintro i hi
 by_cases hlt:i < N
 ·obtain ⟨m,hm⟩ : ∃ m,N - i = m + 1:=⟨N - i - 1,by omega⟩
  have hr:=hrep i m
  rw [hm]
  repeat' first|refine lda (cs:=rrow q (z1,z2)) ?_|refine ixws (i:=(i:Int)) (N:=N) (xs:=rcs (List.replicate i q) (List.replicate i (z1,z2)) ++ zrs (m + 1)) ?_ (hm:=has_oww memA)|refine sow (sz:=3) (m:=3 * i) (N:=N) (xs:=rcs (List.replicate i q) (List.replicate i (z1,z2)) ++ zrs (m + 1)) (vs:=rrow q (z1,z2)) (by omega) ?_ (h1:=one_cons rfl (one_cons h1 (one_cons h2 one_nil)))|(refine wo ?_;first|(refine ao ?_;first|refine aw ?_|refine oa ?_)|refine oa ?_|refine ld ?_)|(refine gc ?_;first|(refine ci (fun hB=>?_) (fun hB=>?_) <;> try (exfalso;omega)))|refine sq ?_|refine rg ?_|refine xc ?_|refine nl ?_|refine sk ?_|refine bk ?_|refine xb ?_
  rw [hr]
  exact lp (i + 1) hlt (hf:=by rw [show N - (i + 1) = m by omega];exact fitA)
 ·obtain rfl:i = N:=by omega
  rw [Nat.sub_self,zrs_zero,List.append_nil]
  repeat' first|refine lda (cs:=[I n,v]) ?_|refine srz ?_|(refine wo ?_;first|(refine ao ?_;first|refine oa ?_))|(refine gc ?_;first|(refine ci (fun hB=>?_) (fun hB=>?_) <;> try (exfalso;omega)))|refine sq ?_|refine rg ?_|refine xc ?_|refine nl ?_|refine xe ?_|refine rt ?_
  exact rca1 (b:=c4) (cs:=[I n,v]) (vs:=[I n,v]) (T:=TGr) ⟨v,rfl,hv,rfl⟩
theorem places_tr (n:Nat) (v:Value) (hv:v.oneCell' = true):Tr Tryz.prog 59 [gV n v] [] [] fun u D=>∃ b,u = .func (.func 108) #[] #[ptr b]∧D = [pt b [I n,v] TGr]:=by
 refine Tr.enter env _ Tryz.func59 (by kernel_rfl) rfl Tryz.ntmps59 rfl (by repeat (first | exact has00 | refine has01 ?_)) fun w0=>?_
 repeat' first|refine bx fun b=>?_|(refine wo ?_;first|refine oa ?_)|refine sq ?_|refine rg ?_|refine xc ?_|refine nl ?_|refine rt ?_
 exact r1 ⟨_,rfl,rfl⟩
theorem places1_seq (b n:Nat) (v:Value) (qs:List Rat) (hs:List HV) (hl:hs.length = qs.length) (hq:qs.length = (n + 1) * (n + 1)) (hn:n ≤ 12) (ho:∀ i,i < qs.length→(hs.getD i nS2).1.oneCell' = true∧(hs.getD i nS2).2.oneCell' = true) :
  SeqP Tryz.prog 108 #[ptr b] (lbd [lpt b [I n,v] TGr,vwf v ((n + 1) * (n + 1)) (rcs qs hs)]) n qs hs:=by
 refine ⟨fun {α} V hV l J pl S a0 h0 hnb hy=>?_⟩
 haveI:=hV
 haveI:∀ a,NoB (J a):=fun a=>⟨hnb a⟩
 refine Tr.pre (pre:=[V,lpt b [I n,v] TGr,vwf v ((n + 1) * (n + 1)) (rcs qs hs)]) ?_ (has1 (has_mem (by simp)) (has_lbds (C:=[lpt b [I n,v] TGr,vwf v ((n + 1) * (n + 1)) (rcs qs hs)]) (by simp) _ (by repeat (first | exact has00 | refine has01 ?_)) fun c hc=>hc)) (by repeat (first | exact has00 | refine has01 ?_))
 have hrow:=fun i (hi:i < (n + 1) * (n + 1))=>grid_row (i:=i) hl hq hi
 have hNb:(n + 1) * (n + 1) ≤ 169:=Nat.mul_le_mul (show n + 1 ≤ 13 by omega) (show n + 1 ≤ 13 by omega)
 rw [hq] at ho
 obtain ⟨N,hN⟩ : ∃ N,N = (n + 1) * (n + 1):=⟨_,rfl⟩
 simp only [← hN] at hy hrow hNb ho ⊢
 clear hN
 generalize rcs qs hs = xs at *
 refine Tr.enter env _ Tryz.func108 (by kernel_rfl) rfl Tryz.ntmps108 rfl (by repeat (first | exact has00 | refine has01 ?_)) fun w0=>?_
 repeat' first|refine lnw (N:=N) (xs:=xs) ?_|(refine wo ?_;first|refine oa ?_|refine ldl ?_)|refine sq ?_|refine rg ?_|refine xc ?_|refine nl ?_|refine bk ?_
 refine TC.loop (ι:=InS α) (fun g=>[(8,I g.i)]) (fun g=>[J g.a]) (fun g=>g.i ≤ N∧pl g.a g.i) (fun g=>N - g.i) ⟨0,a0⟩ [0,1,6,7] ⟨Nat.zero_le _,h0⟩ ?_
 rintro ⟨i,a⟩ ⟨hi,ha⟩
 dsimp only at hi ha ⊢
 by_cases hlt:i < N
 ·have hr:=hrow i hlt
  have hyi:=hy a i ha hlt
  have ho1:=ho i hlt
  have d1:(i:Int) / ((n + 1:Nat):Int) = ((i / (n + 1):Nat):Int):=(Int.natCast_ediv _ _).symm
  have d2:(i:Int) % ((n + 1:Nat):Int) = ((i % (n + 1):Nat):Int):=(Int.natCast_emod _ _).symm
  clear hrow hy ho
  generalize i / (n + 1) = c at *
  generalize i % (n + 1) = r at *
  generalize qs.getD i 0 = q at *
  generalize hs.getD i nS2 = h at *
  obtain ⟨x1,x2⟩:=h
  dsimp only at ho1 hyi
  obtain ⟨ho1,ho2⟩:=ho1
  repeat' first|refine ixws (i:=(i:Int)) (N:=N) (xs:=xs) ?_|refine ldaw (N:=N) (xs:=xs) (m:=3 * i) hr ?_|refine al fun c4=>?_|refine srz ?_ (hj:=Nat.le_of_ble_eq_true rfl)|(refine wo ?_;first|(refine ao ?_;first|refine oa ?_)|refine oa ?_)|(refine gc ?_;first|(refine ci (fun hB=>?_) (fun hB=>?_) <;> try (exfalso;omega)))|refine sq ?_|refine rg ?_|refine xc ?_|refine nl ?_|refine sk ?_|refine bk ?_
  refine rs (fun w=>w.heap[b]? = some (.cells [I n,v].toArray TGr (0,0))∧w.heap[c4]? = some (.cells (rrow q (x1,x2)).toArray TRt (0,0))) ?_ (fun w hw=>⟨lpt_at memA hw,pt_at memA hw⟩)
  refine tka 0 ?_
  refine tka 1 ?_
  refine tka 2 ?_
  refine tkl 3 (cs:=[I n,v]) (fun w h=>h.1) ?_
  refine tkw 4 ((n + 1:Nat):Int) ?_
  refine tke 5 (v:=I c) (by rw [d1]) (fun w _=>R_quo64 (m:=(i:Int)) (q:=((n + 1:Nat):Int)) rfl rfl (by omega)) ?_
  refine tka 6 ?_
  refine tka 7 ?_
  refine tkl 8 (cs:=[I n,v]) (fun w h=>h.1) ?_
  refine tkw 9 ((n + 1:Nat):Int) ?_
  refine tke 10 (v:=I r) (by rw [d2]) (fun w _=>R_rem64 (m:=(i:Int)) (q:=((n + 1:Nat):Int)) rfl rfl (by omega)) ?_
  refine tk 11 (v:=.agg #[I c,I r]) (fun w h=>R_buildArr (E:=env) rfl rfl rfl rfl rfl) ?_
  refine tk 12 (v:=.agg (rrow q (x1,x2)).toArray) (fun w h=>R_loadA (E:=env) (vs:=rrow q (x1,x2)) rfl rfl rfl rfl h.2 rfl rfl) ?_
  refine t1 13 ?_
  refine cy hyi ?_ (hp:=has1 (has_mem memA) has0)
  rintro ok _ ⟨a2,rfl,h3⟩
  refine nl ?_
  refine te (fun w hw=>⟨lpt_at memA hw,pt_at memA hw⟩) ?_
  refine tka 14 ?_
  refine t0 ?_
  rcases h3 with ⟨rfl,h3⟩ | ⟨rfl,h3⟩
  ·repeat' first|(refine wo ?_;first|(refine ao ?_;first|refine aw ?_)|refine oa ?_)|(refine gc ?_;first|refine cf ?_)|refine rg ?_|refine xc ?_|refine nl ?_|refine sk ?_|refine xb ?_
   exact lp ⟨i + 1,a2⟩ ⟨hlt,h3⟩
  ·repeat' first|(refine gc ?_;first|refine ct ?_)|refine xc ?_|refine rt ?_
   exact r0 ⟨a2,rfl,.inr h3⟩
 ·obtain rfl:i = N:=by omega
  repeat' first|(refine wo ?_;first|(refine ao ?_;first|refine oa ?_))|(refine gc ?_;first|(refine ci (fun hB=>?_) (fun hB=>?_) <;> try (exfalso;omega)))|refine sq ?_|refine rg ?_|refine xc ?_|refine nl ?_|refine xe ?_
  exact e0 ⟨a,rfl,.inl ha⟩
end Go.Art
namespace Go.Art
open Go Go.Proofs Go.RowKit
def pows (p:Rat) (i:Nat):List Rat:=(List.range (i + 1)).map fun j=>p ^ j
theorem pows_len (p:Rat) (i:Nat):(pows p i).length = i + 1:=by simp [pows]
theorem pows_get {p:Rat} {i j:Nat} (h:j ≤ i):(pows p i).getD j 0 = p ^ j:=by simp [pows,List.getD_eq_getElem?_getD,Nat.lt_succ_of_le h]
theorem pows_succ (p:Rat) (i:Nat):pows p (i + 1) = pows p i ++ [p ^ (i + 1)]:=by unfold pows;rw [List.range_succ,List.map_append];rfl
theorem pows_zero (p:Rat):pows p 0 = [1]:=by simp [pows,Rat.pow_zero]
structure Hole (C:Value→List Value) (w:Nat):Prop where
 get:∀ a,(C a)[w]? = some a
 set:∀ a b,SetAt b (C a) w (C b)
theorem hole0 (b:Value):Hole (fun a=>[a,b]) 0:=⟨fun _=>rfl,fun _ _=>.z _ _⟩
theorem hole1 (b:Value):Hole (fun a=>[b,a]) 1:=⟨fun _=>rfl,fun _ _=>.s _ (.z _ _)⟩
structure PwG where
 i:Nat
 a:Value
 hs:List HV
section
variable {P:Program} {E:Env P} {n:Sh} {X:Cx} {s:List K} {fr:Fr} {A A':List Ch} {ops:Array Oper} {rest:List Oper} {d:Nat} {ty t t' el:TypeId} {pos:String} {after:Array Edge} {z v u:Value} {x y:Operand} {b j k sz by_ N:Nat} {w:World} {xs:List Value}
theorem R_ixa {m:Nat} {i:Int} {k1:IntKind} (ht:lk E.und t = some (.array m el)) (he:lk E.inf el = some (z,1,by_)) (hx:ev fr x = some (ptr b)) (hy:ev fr y = some (.int k1 i)) (h:0 ≤ i∧i < m) :
  OpV P n fr (.indexAddr t x y) ty w (.pointer (some ⟨b,i.toNat,none⟩)) w:=⟨fun a ha _ _ _ _=>by
 obtain ⟨inf,hi,_,hsz,_⟩:=E.info he
 simp only [execOp,ha.ev hx,ha.ev hy]
 simp [Instr.indexAt,asIntOf,run_underlying (P:=P) (E.un ht) w,h,sizeOf,typeInfo,hi,hsz,Instr.sureAddr,Addr.add_lit]⟩
theorem ixa {m:Nat} {i:Int} {k1:IntKind} (k:TO E n X s ops rest ((d,.pointer (some ⟨b,i.toNat,none⟩)) :: fr) A) (hx:ev fr x = some (ptr b):=by rfl) (hy:ev fr y = some (.int k1 i):=by rfl) (hb:0 ≤ i∧i < m:=by omega)
  (ht:lk E.und t = some (.array m el):=by rfl) (he:lk E.inf el = some (z,1,by_):=by rfl) (hd:Nat.blt d n.n = true:=by rfl):TO E n X s ops (⟨some d,.indexAddr t x y,ty,pos,after,none⟩ :: rest) fr A:=TO.val (fun w _=>R_ixa ht he hx hy hb) k hd
theorem R_lenW (ht:lk E.und t = some (.slice el)) (hx:ev fr x = some v) (hm:SlW w v N xs):OpV P n fr (.call ⟨.builtin .len,#[x],#[t]⟩) ty w (I N) w:=⟨fun a ha _ _ _ _=>by
 obtain ⟨_,cap,rfl,_⟩:=hm
 simp only [execOp,resolve]
 simp [ha.ev hx,invoke,builtin,Builtin.len_,run_underlying (P:=P) (E.un ht) w,goInt]⟩
end
attribute [local irreducible] Fit pt own ro vw mpc lpt vels rels mow lrc dfr
attribute [local irreducible] lmp lme mit velg relg bnd owl dfrl gow
abbrev TPw:TypeId:=223
abbrev TPf:TypeId:=224
theorem power_tr (C:Value→List Value) (w m:Nat) (hC:Hole C w) (hw:w < 2) (p:Rat) (v1 v2:Value) (h1:v1.oneCell' = true) (h2:v2.oneCell' = true) (pw i0:Nat) (a0:Value) (hs0:List HV) (ha0:a0.oneCell' = true) (hl0:hs0.length = i0 + 1) (hm:m ≤ 12) (hi0:i0 ≤ 12) (hB:∀ j,j ≤ 13→FB (p ^ j) 8589934592) :
  Tr Tryz.prog 214 [I w,I m,rv p v1 v2,ptr pw] [vw v1 (Us (dg p.num.natAbs)),vw v2 (Us (dg p.den))] [pt pw (C a0) TPw,oww TRt 3 a0 (i0 + 1) (rcs (pows p i0) hs0),ofr hs0 (pows p i0)]
  fun u D=>∃ i a hs,u = rv (p ^ m) (hs.getD m nS2).1 (hs.getD m nS2).2∧a.oneCell' = true∧hs.length = i + 1∧m ≤ i∧i ≤ 12∧D = [pt pw (C a) TPw,oww TRt 3 a (i + 1) (rcs (pows p i) hs),ofr hs (pows p i)]:=by
 have hFp:FB p 8589934592:=by have:=hB 1 (by decide);rwa [show p ^ 1 = p by rw [Rat.pow_succ,Rat.pow_zero,Rat.one_mul]] at this
 refine Tr.enter env _ Tryz.func214 (by kernel_rfl) rfl Tryz.ntmps214 rfl (by repeat (first | exact has00 | refine has01 ?_)) fun w0=>?_
 repeat' first|refine bx fun c6=>?_|refine al fun c7=>?_|refine sq ?_|refine rg ?_|refine xc ?_|refine nl ?_|refine bk ?_
 refine TC.loop (ι:=PwG) (fun _=>[]) (fun g=>[pt pw (C g.a) TPw,oww TRt 3 g.a (g.i + 1) (rcs (pows p g.i) g.hs),ofr g.hs (pows p g.i)]) (fun g=>g.a.oneCell' = true∧g.hs.length = g.i + 1∧g.i ≤ 12) (fun g=>m - g.i) ⟨i0,a0,hs0⟩ [0,1,3,6,7] ⟨ha0,hl0,hi0⟩ ?_
 rintro ⟨i,a,hs⟩ ⟨ha,hl,hi⟩
 dsimp only at ha hl hi ⊢
 have hpl:=pows_len p i
 have hlq:hs.length = (pows p i).length:=by rw [hpl,hl]
 have hget:=hC.get a
 by_cases hlt:i < m
 ·have hrow:=rcs_row hlq (i:=i) (by omega)
  rw [pows_get (Nat.le_refl i)] at hrow
  have hfr:=fun (F:List Ch) (h:ofr hs (pows p i) ∈ F)=>has_fr (has_ofr hlq h) hlq (i:=i) (by omega)
  rw [pows_get (Nat.le_refl i)] at hfr
  have hMul:=fun lv n1 d1=>FMul2_tr (p ^ i) p lv n1 d1 v1 v2 (hB i (by omega)) hFp
  rw [← Rat.pow_succ] at hMul
  have hps:=pows_succ p i
  have hra:=fun h=>rcs_app (qs:=pows p i) (rs:=[p ^ (i + 1)]) (hs:=hs) (gs:=[h]) hlq
  simp only [← hps,rcs_one] at hra
  unfold FQ2 at hMul
  generalize hs.getD i nS2 = h at *
  obtain ⟨x1,x2⟩:=h
  dsimp only at hfr
  repeat' first|(refine ixa (m:=2) (i:=(w:Int)) ?_;rw [Int.toNat_natCast])|refine ld (cs:=C a) (j:=w) ?_ (hj:=hget)|refine lnw (N:=i + 1) (xs:=rcs (pows p i) hs) ?_ (hm:=has_oww memA)|(refine wo ?_;first|(refine ao ?_;first|refine oa ?_)|refine oa ?_)|(refine gc ?_;first|(refine ci (fun hB=>?_) (fun hB=>?_) <;> try (exfalso;omega)))|refine sq ?_|refine rg ?_|refine xc ?_|refine nl ?_|refine sk ?_|refine bk ?_
  refine cutY (ι:=Nat × HV) (fun g=>g.2.1.oneCell' = true∧g.2.2.oneCell' = true) (fun g=>[(0,I w),(1,I m),(3,ptr pw),(6,ptr c6),(7,ptr c7),(8,ptr g.1)]) (fun g=>[pt g.1 (rrow (p ^ (i + 1)) (g.2.1,g.2.2)) TRt,own T64 g.2.1 (Us (dg (p ^ (i + 1)).num.natAbs)),own T64 g.2.2 (Us (dg (p ^ (i + 1)).den)),pt pw (C a) TPw,oww TRt 3 a (i + 1) (rcs (pows p i) hs),ofr hs (pows p i),pt c7 [.bool false,nS,nS] TRt,pt c6 (rrow p (v1,v2)) TRt,vw v1 (Us (dg p.num.natAbs)),vw v2 (Us (dg p.den))]) ?_ ?_
  ·rintro ⟨c8,n3,d3⟩ ⟨hn3,hd3⟩
   dsimp only at hn3 hd3 ⊢
   repeat' first|(refine wo ?_;first|(refine ao ?_;first|refine aw ?_|refine aw6 ?_|refine oa ?_|refine adiv ?_|refine amod ?_|refine shr1 ?_|refine shr ?_|refine umod ?_|refine isl ?_|refine ipe ?_|refine ipn ?_|refine ibe ?_)|refine acw ?_|refine ucv ?_|refine anw ?_|refine oa ?_|refine ld ?_|refine ldl ?_|refine lnm ?_|refine ixmn ?_|refine ixm ?_|refine li ?_|refine lb ?_|refine lv ?_|refine ln ?_|refine ixn ?_|refine ix ?_|refine le ?_|refine sr ?_|refine soi ?_|refine sob ?_|refine scm ?_|refine sclm ?_|refine schm ?_|refine gy ?_|refine gn ?_|refine gnn ?_|refine gu ?_|(refine gsi (fun hB=>?_) (fun hB=>?_) <;> try (exfalso;omega))|(refine gsn (fun hB=>?_) (fun hB=>?_) <;> try (exfalso;omega))|(refine gs (fun hB=>?_) (fun hB=>?_) <;> try (exfalso;omega)))|(refine gc ?_;first|refine ct ?_|refine cf ?_|(refine ci (fun hB=>?_) (fun hB=>?_) <;> try (exfalso;omega))|(refine cn (fun hB=>?_) (fun hB=>?_) <;> try (exfalso;omega))|(refine cb (fun hB=>?_) (fun hB=>?_) <;> try (exfalso;omega)))|refine sq ?_|refine rg ?_|refine xc ?_|refine nl ?_|refine sk ?_|refine bk ?_|refine xe ?_|refine rt ?_|refine xb ?_
   refine rs (fun w'=>w'.heap[c8]? = some (.cells (rrow (p ^ (i + 1)) (n3,d3)).toArray TRt (0,0))) ?_ (fun w' hw=>pt_at memA hw)
   refine tka 0 ?_
   refine tka 1 ?_
   refine tk 2 (v:=.pointer (some ⟨pw,w,none⟩)) (fun w' h=>R_ixa (E:=env) (m:=2) (i:=(w:Int)) rfl rfl rfl rfl ⟨by omega,by omega⟩) ?_
   refine tk 4 (v:=.agg (rrow (p ^ (i + 1)) (n3,d3)).toArray) (fun w' h=>R_loadA (E:=env) (vs:=rrow (p ^ (i + 1)) (n3,d3)) rfl rfl rfl rfl h rfl rfl) ?_
   refine t2 3 5 ?_ ?_
   ·refine ld (cs:=C a) (j:=w) ?_ (hj:=hget)
    refine nl ?_
    refine te (fun w' hw=>pt_at memA hw) ?_
    refine t1 5 ?_
    refine slws (sz:=3) (xs:=rrow (p ^ (i + 1)) (n3,d3)) fun g3=>?_
    refine nl ?_
    refine te (fun w' hw=>pt_at memA hw) ?_
    refine t1 6 ?_
    refine apw (sz:=3) (M:=1) (N:=i + 1) (xs:=rcs (pows p i) hs) (ys:=rrow (p ^ (i + 1)) (n3,d3)) (by decide) rfl (one_cons rfl (one_cons hn3 (one_cons hd3 one_nil))) (fun o2 ho2=>?_) (hu:=has_oww memA)
    refine nl ?_
    refine te (fun w' hw=>pt_at memA hw) ?_
    refine tk 7 (v:=.pointer (some ⟨pw,w,none⟩)) (fun w' h=>R_ixa (E:=env) (m:=2) (i:=(w:Int)) rfl rfl rfl rfl ⟨by omega,by omega⟩) ?_
    refine t1 8 ?_
    refine sr (cs:=C a) (cs':=C o2) ?_ (hs:=hC.set a o2)
    refine nl ?_
    refine te (fun w' hw=>pt_at memA hw) ?_
    refine t0 ?_
    repeat' first|refine xb ?_
    refine TX.im (ofr_snoc hlq (p ^ (i + 1)) n3 d3 fitA) ?_
    rw [← hps,← hra]
    exact lp ⟨i + 1,o2,hs ++ [(n3,d3)]⟩ ⟨ho2,by simp [hl],(by omega:i + 1 ≤ 12)⟩
   ·refine slws (sz:=3) (xs:=rrow (p ^ (i + 1)) (n3,d3)) fun g3=>?_
    refine nl ?_
    refine te (fun w' hw=>pt_at memA hw) ?_
    refine t1 3 ?_
    refine ld (cs:=C a) (j:=w) ?_ (hj:=hget)
    refine nl ?_
    refine te (fun w' hw=>pt_at memA hw) ?_
    refine t1 6 ?_
    refine apw (sz:=3) (M:=1) (N:=i + 1) (xs:=rcs (pows p i) hs) (ys:=rrow (p ^ (i + 1)) (n3,d3)) (by decide) rfl (one_cons rfl (one_cons hn3 (one_cons hd3 one_nil))) (fun o2 ho2=>?_) (hu:=has_oww memA)
    refine nl ?_
    refine te (fun w' hw=>pt_at memA hw) ?_
    refine tk 7 (v:=.pointer (some ⟨pw,w,none⟩)) (fun w' h=>R_ixa (E:=env) (m:=2) (i:=(w:Int)) rfl rfl rfl rfl ⟨by omega,by omega⟩) ?_
    refine t1 8 ?_
    refine sr (cs:=C a) (cs':=C o2) ?_ (hs:=hC.set a o2)
    refine nl ?_
    refine te (fun w' hw=>pt_at memA hw) ?_
    refine t0 ?_
    repeat' first|refine xb ?_
    refine TX.im (ofr_snoc hlq (p ^ (i + 1)) n3 d3 fitA) ?_
    rw [← hps,← hra]
    exact lp ⟨i + 1,o2,hs ++ [(n3,d3)]⟩ ⟨ho2,by simp [hl],(by omega:i + 1 ≤ 12)⟩
  ·intro b' kb
   refine rs (fun w'=>w'.heap[pw]? = some (.cells (C a).toArray TPw (0,0))∧SlW w' a (i + 1) (rcs (pows p i) hs)∧w'.heap[c6]? = some (.cells (rrow p (v1,v2)).toArray TRt (0,0))) ?_ (fun w' hw=>⟨pt_at memA hw,(has_oww (e:=TRt) (sz:=3) (v:=a) (n:=i + 1) (xs:=rcs (pows p i) hs) memA).P w' hw,pt_at memA hw⟩)
   refine tka 0 ?_
   refine tk 1 (v:=.pointer (some ⟨pw,w,none⟩)) (fun w' h=>R_ixa (E:=env) (m:=2) (i:=(w:Int)) rfl rfl rfl rfl ⟨by omega,by omega⟩) ?_
   refine tkl 2 (cs:=C a) (v:=a) (fun w' h=>h.1) ?_ (hj:=hget)
   refine tka 3 ?_
   refine tk 4 (v:=.pointer (some ⟨pw,w,none⟩)) (fun w' h=>R_ixa (E:=env) (m:=2) (i:=(w:Int)) rfl rfl rfl rfl ⟨by omega,by omega⟩) ?_
   refine tkl 5 (cs:=C a) (v:=a) (fun w' h=>h.1) ?_ (hj:=hget)
   refine tk 6 (v:=I ((i + 1:Nat):Int)) (fun w' h=>R_lenW (E:=env) rfl rfl h.2.1) ?_
   refine tkw 7 (i:Int) ?_
   refine tk 8 (v:=.pointer (some (adr a (3 * i)))) (fun w' h=>R_idxW (E:=env) (i:=(i:Int)) rfl rfl rfl rfl h.2.1 ⟨by omega,by omega⟩) ?_
   refine tk 9 (v:=.agg (rrow (p ^ i) (x1,x2)).toArray) (fun w' h=>R_loadW (E:=env) rfl rfl rfl rfl h.2.1 hrow rfl) ?_
   refine tk 10 (v:=.agg (rrow p (v1,v2)).toArray) (fun w' h=>R_loadA (E:=env) (vs:=rrow p (v1,v2)) rfl rfl rfl rfl h.2.2 rfl rfl) ?_
   refine t2 11 16 ?_ ?_
   ·refine slws (sz:=3) (xs:=rrow (p ^ i) (x1,x2) ++ rrow p (v1,v2)) fun g2=>?_
    refine nl ?_
    refine te (fun w' hw=>⟨pt_at memA hw,(has_oww (e:=TRt) (sz:=3) (v:=a) (n:=i + 1) (xs:=rcs (pows p i) hs) memA).P w' hw,pt_at memA hw⟩) ?_
    refine t2 12 16 ?_ ?_
    ·refine ca (hMul _ x1 x2) ?_ (hp:=has1 (has_oww memA) (has1 (hfr _ memA).1 (has1 (hfr _ memA).2 (has1 hasA (has1 hasA has0)))))
     rintro _ _ ⟨n3,d3,rfl,hn3,hd3,rfl⟩
     refine nl ?_
     refine te (fun w' hw=>⟨pt_at memA hw,(has_oww (e:=TRt) (sz:=3) (v:=a) (n:=i + 1) (xs:=rcs (pows p i) hs) memA).P w' hw,pt_at memA hw⟩) ?_
     refine tka 13 ?_
     refine tka 14 ?_
     refine tka 15 ?_
     refine t1 16 ?_
     refine al fun c8=>?_
     refine nl ?_
     refine te (fun w' hw=>⟨pt_at memA hw,(has_oww (e:=TRt) (sz:=3) (v:=a) (n:=i + 1) (xs:=rcs (pows p i) hs) memA).P w' hw,pt_at memA hw⟩) ?_
     refine t1 17 ?_
     refine srz ?_
     refine nl ?_
     refine te (fun w' hw=>⟨pt_at memA hw,(has_oww (e:=TRt) (sz:=3) (v:=a) (n:=i + 1) (xs:=rcs (pows p i) hs) memA).P w' hw,pt_at memA hw⟩) ?_
     refine tka 18 ?_
     refine t0 ?_
     repeat' first|refine xc ?_
     exact kb (c8,n3,d3) ⟨hn3,hd3⟩ _ _ (by (repeat (refine Sub.cons rfl (by first | rfl | go_num) ?_));exact Sub.nil) fitA
    ·refine al fun c8=>?_
     refine nl ?_
     refine te (fun w' hw=>⟨pt_at memA hw,(has_oww (e:=TRt) (sz:=3) (v:=a) (n:=i + 1) (xs:=rcs (pows p i) hs) memA).P w' hw,pt_at memA hw⟩) ?_
     refine t1 12 ?_
     refine ca (hMul _ x1 x2) ?_ (hp:=has1 (has_oww memA) (has1 (hfr _ memA).1 (has1 (hfr _ memA).2 (has1 hasA (has1 hasA has0)))))
     rintro _ _ ⟨n3,d3,rfl,hn3,hd3,rfl⟩
     refine nl ?_
     refine te (fun w' hw=>⟨pt_at memA hw,(has_oww (e:=TRt) (sz:=3) (v:=a) (n:=i + 1) (xs:=rcs (pows p i) hs) memA).P w' hw,pt_at memA hw⟩) ?_
     refine tka 13 ?_
     refine tka 14 ?_
     refine tka 15 ?_
     refine t1 17 ?_
     refine srz ?_
     refine nl ?_
     refine te (fun w' hw=>⟨pt_at memA hw,(has_oww (e:=TRt) (sz:=3) (v:=a) (n:=i + 1) (xs:=rcs (pows p i) hs) memA).P w' hw,pt_at memA hw⟩) ?_
     refine tka 18 ?_
     refine t0 ?_
     repeat' first|refine xc ?_
     exact kb (c8,n3,d3) ⟨hn3,hd3⟩ _ _ (by (repeat (refine Sub.cons rfl (by first | rfl | go_num) ?_));exact Sub.nil) fitA
   ·refine al fun c8=>?_
    refine nl ?_
    refine te (fun w' hw=>⟨pt_at memA hw,(has_oww (e:=TRt) (sz:=3) (v:=a) (n:=i + 1) (xs:=rcs (pows p i) hs) memA).P w' hw,pt_at memA hw⟩) ?_
    refine t1 11 ?_
    refine slws (sz:=3) (xs:=rrow (p ^ i) (x1,x2) ++ rrow p (v1,v2)) fun g2=>?_
    refine nl ?_
    refine te (fun w' hw=>⟨pt_at memA hw,(has_oww (e:=TRt) (sz:=3) (v:=a) (n:=i + 1) (xs:=rcs (pows p i) hs) memA).P w' hw,pt_at memA hw⟩) ?_
    refine t1 12 ?_
    refine ca (hMul _ x1 x2) ?_ (hp:=has1 (has_oww memA) (has1 (hfr _ memA).1 (has1 (hfr _ memA).2 (has1 hasA (has1 hasA has0)))))
    rintro _ _ ⟨n3,d3,rfl,hn3,hd3,rfl⟩
    refine nl ?_
    refine te (fun w' hw=>⟨pt_at memA hw,(has_oww (e:=TRt) (sz:=3) (v:=a) (n:=i + 1) (xs:=rcs (pows p i) hs) memA).P w' hw,pt_at memA hw⟩) ?_
    refine tka 13 ?_
    refine tka 14 ?_
    refine tka 15 ?_
    refine t1 17 ?_
    refine srz ?_
    refine nl ?_
    refine te (fun w' hw=>⟨pt_at memA hw,(has_oww (e:=TRt) (sz:=3) (v:=a) (n:=i + 1) (xs:=rcs (pows p i) hs) memA).P w' hw,pt_at memA hw⟩) ?_
    refine tka 18 ?_
    refine t0 ?_
    repeat' first|refine xc ?_
    exact kb (c8,n3,d3) ⟨hn3,hd3⟩ _ _ (by (repeat (refine Sub.cons rfl (by first | rfl | go_num) ?_));exact Sub.nil) fitA
 ·have hrow:=rcs_row hlq (i:=m) (by omega)
  rw [pows_get (show m ≤ i by omega)] at hrow
  refine TC.fact (fun w' hw=>fr_one (hs:=hs) (qs:=pows p i) (has_ofr hlq memA) hlq (i:=m) (by omega) w' hw) fun hone=>?_
  obtain ⟨y,hy⟩ : ∃ y,y = hs.getD m nS2:=⟨_,rfl⟩
  rw [← hy] at hrow hone
  obtain ⟨x1,x2⟩:=y
  dsimp only at hone
  obtain ⟨hone1,hone2⟩:=hone
  repeat' first|(refine ixa (m:=2) (i:=(w:Int)) ?_;rw [Int.toNat_natCast])|refine ld (cs:=C a) (j:=w) ?_ (hj:=hget)|refine lnw (N:=i + 1) (xs:=rcs (pows p i) hs) ?_ (hm:=has_oww memA)|refine ixws (i:=(m:Int)) (N:=i + 1) (xs:=rcs (pows p i) hs) ?_ (hm:=has_oww memA)|refine ldaw (N:=i + 1) (xs:=rcs (pows p i) hs) (m:=3 * m) hrow ?_ (hm:=has_oww memA)|refine srz ?_ (hj:=Nat.le_of_ble_eq_true rfl)|(refine wo ?_;first|(refine ao ?_;first|refine oa ?_)|refine oa ?_)|(refine gc ?_;first|(refine ci (fun hB=>?_) (fun hB=>?_) <;> try (exfalso;omega)))|refine sq ?_|refine rg ?_|refine xc ?_|refine nl ?_|refine xe ?_|refine rt ?_
  exact rca1 (b:=c7) (cs:=rrow (p ^ m) (x1,x2)) (vs:=rrow (p ^ m) (x1,x2)) (T:=TRt) ⟨i,a,hs,by rw [← hy],ha,hl,by omega,hi,rfl⟩
end Go.Art
namespace Go.Art
open Go Go.Proofs Go.RowKit
theorem Tr.post {P:Program} {f:FuncId} {args:List Value} {pre A:List Ch} {R R':Value→List Ch→Prop} (h:Tr P f args pre A R) (k:∀ v D,R v D→∃ D',R' v D'∧Im D D'∧∀ c ∈ D',∀ b,¬ c.bd b):Tr P f args pre A R':=by
 refine ⟨fun w hw=>(h.run w hw).mono fun v w' ⟨B,hR,hS,hM,_⟩=>?_,h.lent⟩
 obtain ⟨D',hR',hI,hB'⟩:=k v B hR
 refine ⟨D',hR',hI.sat w' hS,⟨hM.os,hM.tape,hM.output,hM.size,hM.block,fun b hb=>hM.wr b (hI.wr b hb),fun b hb=>?_⟩,hB'⟩
 rcases hI.rd b hb with h1 | h1
 ·rcases hM.wr b h1 with h2 | h2
  ·exact .inl h2
  ·exact .inr (.inr h2)
 ·exact hM.rd b h1
structure ShC where
 bq:Nat
 bp:Nat
 bl:Nat
 pw:Nat
 l1:Value
 l2:Value
structure ShG where
 a0:Value
 h0:List HV
 i0:Nat
 a1:Value
 h1:List HV
 i1:Nat
structure ShOk (c:ShC) (g:ShG):Prop where
 a0:g.a0.oneCell' = true
 a1:g.a1.oneCell' = true
 h0:g.h0.length = g.i0 + 1
 h1:g.h1.length = g.i1 + 1
 i0:g.i0 ≤ 12
 i1:g.i1 ≤ 12
 l1:c.l1.oneCell' = true
 l2:c.l2.oneCell' = true
theorem chs_mk (n:Nat):mkRat (n:Int) 1 = (n:Rat):=by rw [Rat.mkRat_eq_div];push_cast;grind
attribute [local irreducible] Fit pt own ro vw mpc lpt vels rels mow lrc dfr
attribute [local irreducible] lmp lme mit velg relg bnd owl dfrl gow
abbrev powV (pw:Nat):Value:=.func (.func 214) #[] #[ptr pw]
abbrev shV (c:ShC):Value:=.func (.func 215) #[] #[ptr c.bq,ptr c.bp,ptr c.bl]
abbrev shP (c:ShC) (p:Rat) (v:HV) (g:ShG):List Ch:=[pt c.bq [powV c.pw] TPf,pt c.bp (rrow p v) TRt,pt c.bl (rrow (1 - p) (c.l1,c.l2)) TRt,own T64 c.l1 (Us (dg (1 - p).num.natAbs)),own T64 c.l2 (Us (dg (1 - p).den)),pt c.pw [g.a0,g.a1] TPw,oww TRt 3 g.a0 (g.i0 + 1) (rcs (pows p g.i0) g.h0),ofr g.h0 (pows p g.i0),oww TRt 3 g.a1 (g.i1 + 1) (rcs (pows (1 - p) g.i1) g.h1),ofr g.h1 (pows (1 - p) g.i1)]
def shB (c:ShC) (p:Rat) (v:HV) (g:ShG):Ch:=bnd (shP c p v g)
theorem shP_nb (c:ShC) (p:Rat) (v:HV) (g:ShG):∀ x ∈ shP c p v g,∀ b,¬ x.bd b:=by repeat (first | exact nb0 | refine nb1 ?_)
instance (c:ShC) (p:Rat) (v:HV) (g:ShG):NoB (shB c p v g):=⟨bnd_nob (shP_nb c p v g)⟩
structure PwB (p:Rat):Prop where
 hp:∀ j,j ≤ 13→FB (p ^ j) 8589934592
 hl:∀ j,j ≤ 13→FB ((1 - p) ^ j) 8589934592
 hcp:∀ m s,m ≤ 12→s ≤ m→FB ((chs m s:Rat) * p ^ s) 8589934592
theorem share0_tr (c:ShC) (p:Rat) (v:HV) (g:ShG) (hv1:v.1.oneCell' = true) (hv2:v.2.oneCell' = true) (ho:ShOk c g) (hB:PwB p) (many so:Nat) (hm:many ≤ 12) (hs:so ≤ many) :
  Tr Tryz.prog 215 [I many,I so,ptr c.bq,ptr c.bp,ptr c.bl] [vw v.1 (Us (dg p.num.natAbs)),vw v.2 (Us (dg p.den))] (shP c p v g) fun u D=>∃ g' vn vd,u = rv (shar p many so) vn vd∧vn.oneCell' = true∧vd.oneCell' = true∧ShOk c g'∧D = own T64 vn (Us (dg (shar p many so).num.natAbs)) :: own T64 vd (Us (dg (shar p many so).den)) :: shP c p v g':=by
 obtain ⟨o1,o2,o3,o4,o5,o6,o7,o8⟩:=ho
 have hC:=Choose_tr many so (by omega) hs
 have hcl:=chs_len many so
 have hI:=fun o=>IMake_tr false o (dg (chs many so)) (Dg_dg _) (by omega)
 have hR:=fun o dv=>FMake_tr ((chs many so:Nat):Int) o dv [1] (Dg.one (by decide)) (by unfold dz;rw [Int.natAbs_natCast];omega) (by decide) (by decide)
 have hsg:∀ n:Nat,sg false n = (n:Int):=fun n=>rfl
 simp only [nv_dg,hsg] at hI
 unfold IR at hI
 unfold dz iv at hR
 rw [show nv [1] = 1 from rfl,chs_mk] at hR
 simp only [Int.natAbs_natCast] at hI hR
 have hn:decide (((chs many so:Nat):Int) < 0) = false:=decide_eq_false (by omega)
 rw [hn] at hI hR
 unfold eNat at hC
 unfold FQ2 at hR
 have hP0:=fun b=>power_tr (fun a=>[a,b]) 0 so (hole0 b) (by decide) p v.1 v.2 hv1 hv2 c.pw g.i0 g.a0 g.h0 o1 o3 (by omega) o5 hB.hp
 have hP1:=fun b=>power_tr (fun a=>[b,a]) 1 (many - so) (hole1 b) (by decide) (1 - p) c.l1 c.l2 o7 o8 c.pw g.i1 g.a1 g.h1 o2 o4 (by omega) o6 hB.hl
 have hF1:FB (chs many so:Rat) 8589934592:=by
  have:=hB.hcp many so hm hs
  have e:=FB_nat (a:=chs many so) (E:=1) (B:=1) (by decide) (Nat.lt_of_le_of_lt (chs_le many so) (Nat.lt_of_le_of_lt (Nat.pow_le_pow_right (by decide) (show many ≤ 63 by omega)) (by decide))) (by decide)
  rw [show ((chs many so:Nat):Rat) / ((1:Nat):Rat) = (chs many so:Rat) by rw [show ((1:Nat):Rat) = 1 from rfl];grind] at e
  exact e.le (by decide)
 have hMul:=fun lv v1 v2 v3 v4 v5 v6=>FMul3_tr (chs many so:Rat) (p ^ so) ((1 - p) ^ (many - so)) lv v1 v2 v3 v4 v5 v6 hF1 (hB.hp so (by omega)) (hB.hl (many - so) (by omega)) (hB.hcp many so hm hs)
 have hms:(many:Int) - so = ((many - so:Nat):Int):=by omega
 rw [show (chs many so:Rat) * p ^ so * (1 - p) ^ (many - so) = shar p many so from rfl] at hMul
 have hpg:=fun (hs:List HV) (i:Nat) (hl:hs.length = i + 1) (hi:so ≤ i) (F:List Ch) (h:ofr hs (pows p i) ∈ F)=>has_fr (i:=so) (has_ofr (by rw [pows_len];exact hl) h) (by rw [pows_len];exact hl) (by rw [pows_len];omega)
 have hlg:=fun (hs:List HV) (i:Nat) (hl:hs.length = i + 1) (hi:many - so ≤ i) (F:List Ch) (h:ofr hs (pows (1 - p) i) ∈ F)=>has_fr (i:=many - so) (has_ofr (by rw [pows_len];exact hl) h) (by rw [pows_len];exact hl) (by rw [pows_len];omega)
 have hpe:=fun i (hi:so ≤ i)=>pows_get (p:=p) hi
 have hle:=fun i (hi:many - so ≤ i)=>pows_get (p:=1 - p) hi
 unfold FQ2 at hMul
 clear hF1 hB hn hsg
 obtain ⟨v1,v2⟩:=v
 dsimp only at hv1 hv2 hP0 hP1
 generalize (chs many so:Rat) = qc at *
 generalize dg (chs many so) = lc at *
 generalize shar p many so = q at *
 refine Tr.enter env _ Tryz.func215 (by kernel_rfl) rfl Tryz.ntmps215 rfl (by repeat (first | exact has00 | refine has01 ?_)) fun w0=>?_
 repeat' first|(refine gca ?_;first|(refine ca hC ?_;rintro _ _ ⟨o1,rfl,ho1,rfl⟩)|(refine ca (hI o1) ?_;rintro _ _ ⟨o5,rfl,ho5,rfl⟩)|(refine ca (hR o5 o6) ?_;rintro _ _ ⟨n1,d1,rfl,hn1,hd1,rfl⟩))|refine al fun c10=>?_|refine slu [1] (fun o6 ho6=>?_)|refine srz ?_|(refine wo ?_;first|refine oa ?_)|refine sq ?_|refine rg ?_|refine xc ?_|refine nl ?_
 rename_i c7
 refine rs (fun w'=>w'.heap[c10]? = some (.cells (rrow qc (n1,d1)).toArray TRt (0,0))∧w'.heap[c.bq]? = some (.cells [powV c.pw].toArray TPf (0,0))∧w'.heap[c.bp]? = some (.cells (rrow p (v1,v2)).toArray TRt (0,0))∧w'.heap[c.bl]? = some (.cells (rrow (1 - p) (c.l1,c.l2)).toArray TRt (0,0))) ?_ (fun w' hw=>⟨pt_at memA hw,pt_at memA hw,pt_at memA hw,pt_at memA hw⟩)
 refine tk 0 (v:=.agg (rrow qc (n1,d1)).toArray) (fun w' h=>R_loadA (E:=env) (vs:=rrow qc (n1,d1)) rfl rfl rfl rfl h.1 rfl rfl) ?_
 refine tkl 1 (cs:=[powV c.pw]) (fun w' h=>h.2.1) ?_
 refine tka 2 ?_
 refine tk 3 (v:=.agg (rrow p (v1,v2)).toArray) (fun w' h=>R_loadA (E:=env) (vs:=rrow p (v1,v2)) rfl rfl rfl rfl h.2.2.1 rfl rfl) ?_
 refine tkl 5 (cs:=[powV c.pw]) (fun w' h=>h.2.1) ?_
 refine tka 6 ?_
 refine tka 7 ?_
 refine tkw 8 ((many - so:Nat):Int) ?_
 refine tk 9 (v:=.agg (rrow (1 - p) (c.l1,c.l2)).toArray) (fun w' h=>R_loadA (E:=env) (vs:=rrow (1 - p) (c.l1,c.l2)) rfl rfl rfl rfl h.2.2.2 rfl rfl) ?_
 refine t2 4 16 ?_ ?_
 ·refine cav (cap:=#[ptr c.pw]) (vs:=[I ((0:Nat):Int),I so,rv p v1 v2]) (hP0 g.a1) ?_
  rintro _ _ ⟨i0',a0',h0',rfl,q1,q2,q3,q4,rfl⟩
  refine nl ?_
  refine te (fun w' hw=>⟨pt_at memA hw,pt_at memA hw,pt_at memA hw,pt_at memA hw⟩) ?_
  refine t2 10 16 ?_ ?_
  ·refine cav (cap:=#[ptr c.pw]) (vs:=[I ((1:Nat):Int),I ((many - so:Nat):Int),rv (1 - p) c.l1 c.l2]) (hP1 a0') ?_
   rintro _ _ ⟨i1',a1',h1',rfl,r1',r2',r3',r4',rfl⟩
   refine nl ?_
   refine te (fun w' hw=>⟨pt_at memA hw,pt_at memA hw,pt_at memA hw,pt_at memA hw⟩) ?_
   refine t2 11 16 ?_ ?_
   ·refine slws (sz:=3) (xs:=rrow qc (n1,d1) ++ rrow (p ^ so) (h0'.getD so nS2) ++ rrow ((1 - p) ^ (many - so)) (h1'.getD (many - so) nS2)) fun g2=>?_
    refine nl ?_
    refine te (fun w' hw=>⟨pt_at memA hw,pt_at memA hw,pt_at memA hw,pt_at memA hw⟩) ?_
    refine t2 12 16 ?_ ?_
    ·refine ca (hMul _ n1 d1 (h0'.getD so nS2).1 (h0'.getD so nS2).2 (h1'.getD (many - so) nS2).1 (h1'.getD (many - so) nS2).2) ?_ (hp:=has1 (has_oww memA) (has1 hasA (has1 hasA (has1 (by rw [← hpe i0' q3];exact (hpg h0' i0' q2 q3 _ memA).1) (has1 (by rw [← hpe i0' q3];exact (hpg h0' i0' q2 q3 _ memA).2) (has1 (by rw [← hle i1' r3'];exact (hlg h1' i1' r2' r3' _ memA).1) (has1 (by rw [← hle i1' r3'];exact (hlg h1' i1' r2' r3' _ memA).2) has0)))))))
     rintro _ _ ⟨n3,d3,rfl,hn3,hd3,rfl⟩
     refine nl ?_
     refine te (fun w' hw=>⟨pt_at memA hw,pt_at memA hw,pt_at memA hw,pt_at memA hw⟩) ?_
     refine tka 13 ?_
     refine tka 14 ?_
     refine tka 15 ?_
     refine t1 16 ?_
     refine al fun c12=>?_
     refine nl ?_
     refine te (fun w' hw=>⟨pt_at memA hw,pt_at memA hw,pt_at memA hw,pt_at memA hw⟩) ?_
     refine t1 17 ?_
     refine srz ?_
     refine nl ?_
     refine te (fun w' hw=>⟨pt_at memA hw,pt_at memA hw,pt_at memA hw,pt_at memA hw⟩) ?_
     refine tka 18 ?_
     refine t0 ?_
     repeat' first|refine lda (cs:=rrow q (n3,d3)) ?_|refine srz ?_ (hj:=Nat.le_of_ble_eq_true rfl)|refine sq ?_|refine rg ?_|refine xc ?_|refine nl ?_|refine rt ?_
     exact rca1 (b:=c7) (cs:=rrow q (n3,d3)) (vs:=rrow q (n3,d3)) (T:=TRt) ⟨⟨a0',h0',i0',a1',h1',i1'⟩,n3,d3,rfl,hn3,hd3,⟨q1,r1',q2,r2',q4,r4',o7,o8⟩,rfl⟩
    ·refine al fun c12=>?_
     refine nl ?_
     refine te (fun w' hw=>⟨pt_at memA hw,pt_at memA hw,pt_at memA hw,pt_at memA hw⟩) ?_
     refine t1 12 ?_
     refine ca (hMul _ n1 d1 (h0'.getD so nS2).1 (h0'.getD so nS2).2 (h1'.getD (many - so) nS2).1 (h1'.getD (many - so) nS2).2) ?_ (hp:=has1 (has_oww memA) (has1 hasA (has1 hasA (has1 (by rw [← hpe i0' q3];exact (hpg h0' i0' q2 q3 _ memA).1) (has1 (by rw [← hpe i0' q3];exact (hpg h0' i0' q2 q3 _ memA).2) (has1 (by rw [← hle i1' r3'];exact (hlg h1' i1' r2' r3' _ memA).1) (has1 (by rw [← hle i1' r3'];exact (hlg h1' i1' r2' r3' _ memA).2) has0)))))))
     rintro _ _ ⟨n3,d3,rfl,hn3,hd3,rfl⟩
     refine nl ?_
     refine te (fun w' hw=>⟨pt_at memA hw,pt_at memA hw,pt_at memA hw,pt_at memA hw⟩) ?_
     refine tka 13 ?_
     refine tka 14 ?_
     refine tka 15 ?_
     refine t1 17 ?_
     refine srz ?_
     refine nl ?_
     refine te (fun w' hw=>⟨pt_at memA hw,pt_at memA hw,pt_at memA hw,pt_at memA hw⟩) ?_
     refine tka 18 ?_
     refine t0 ?_
     repeat' first|refine lda (cs:=rrow q (n3,d3)) ?_|refine srz ?_ (hj:=Nat.le_of_ble_eq_true rfl)|refine sq ?_|refine rg ?_|refine xc ?_|refine nl ?_|refine rt ?_
     exact rca1 (b:=c7) (cs:=rrow q (n3,d3)) (vs:=rrow q (n3,d3)) (T:=TRt) ⟨⟨a0',h0',i0',a1',h1',i1'⟩,n3,d3,rfl,hn3,hd3,⟨q1,r1',q2,r2',q4,r4',o7,o8⟩,rfl⟩
   ·refine al fun c12=>?_
    refine nl ?_
    refine te (fun w' hw=>⟨pt_at memA hw,pt_at memA hw,pt_at memA hw,pt_at memA hw⟩) ?_
    refine t1 11 ?_
    refine slws (sz:=3) (xs:=rrow qc (n1,d1) ++ rrow (p ^ so) (h0'.getD so nS2) ++ rrow ((1 - p) ^ (many - so)) (h1'.getD (many - so) nS2)) fun g2=>?_
    refine nl ?_
    refine te (fun w' hw=>⟨pt_at memA hw,pt_at memA hw,pt_at memA hw,pt_at memA hw⟩) ?_
    refine t1 12 ?_
    refine ca (hMul _ n1 d1 (h0'.getD so nS2).1 (h0'.getD so nS2).2 (h1'.getD (many - so) nS2).1 (h1'.getD (many - so) nS2).2) ?_ (hp:=has1 (has_oww memA) (has1 hasA (has1 hasA (has1 (by rw [← hpe i0' q3];exact (hpg h0' i0' q2 q3 _ memA).1) (has1 (by rw [← hpe i0' q3];exact (hpg h0' i0' q2 q3 _ memA).2) (has1 (by rw [← hle i1' r3'];exact (hlg h1' i1' r2' r3' _ memA).1) (has1 (by rw [← hle i1' r3'];exact (hlg h1' i1' r2' r3' _ memA).2) has0)))))))
    rintro _ _ ⟨n3,d3,rfl,hn3,hd3,rfl⟩
    refine nl ?_
    refine te (fun w' hw=>⟨pt_at memA hw,pt_at memA hw,pt_at memA hw,pt_at memA hw⟩) ?_
    refine tka 13 ?_
    refine tka 14 ?_
    refine tka 15 ?_
    refine t1 17 ?_
    refine srz ?_
    refine nl ?_
    refine te (fun w' hw=>⟨pt_at memA hw,pt_at memA hw,pt_at memA hw,pt_at memA hw⟩) ?_
    refine tka 18 ?_
    refine t0 ?_
    repeat' first|refine lda (cs:=rrow q (n3,d3)) ?_|refine srz ?_ (hj:=Nat.le_of_ble_eq_true rfl)|refine sq ?_|refine rg ?_|refine xc ?_|refine nl ?_|refine rt ?_
    exact rca1 (b:=c7) (cs:=rrow q (n3,d3)) (vs:=rrow q (n3,d3)) (T:=TRt) ⟨⟨a0',h0',i0',a1',h1',i1'⟩,n3,d3,rfl,hn3,hd3,⟨q1,r1',q2,r2',q4,r4',o7,o8⟩,rfl⟩
  ·refine al fun c12=>?_
   refine nl ?_
   refine te (fun w' hw=>⟨pt_at memA hw,pt_at memA hw,pt_at memA hw,pt_at memA hw⟩) ?_
   refine t1 10 ?_
   refine cav (cap:=#[ptr c.pw]) (vs:=[I ((1:Nat):Int),I ((many - so:Nat):Int),rv (1 - p) c.l1 c.l2]) (hP1 a0') ?_
   rintro _ _ ⟨i1',a1',h1',rfl,r1',r2',r3',r4',rfl⟩
   refine nl ?_
   refine te (fun w' hw=>⟨pt_at memA hw,pt_at memA hw,pt_at memA hw,pt_at memA hw⟩) ?_
   refine t1 11 ?_
   refine slws (sz:=3) (xs:=rrow qc (n1,d1) ++ rrow (p ^ so) (h0'.getD so nS2) ++ rrow ((1 - p) ^ (many - so)) (h1'.getD (many - so) nS2)) fun g2=>?_
   refine nl ?_
   refine te (fun w' hw=>⟨pt_at memA hw,pt_at memA hw,pt_at memA hw,pt_at memA hw⟩) ?_
   refine t1 12 ?_
   refine ca (hMul _ n1 d1 (h0'.getD so nS2).1 (h0'.getD so nS2).2 (h1'.getD (many - so) nS2).1 (h1'.getD (many - so) nS2).2) ?_ (hp:=has1 (has_oww memA) (has1 hasA (has1 hasA (has1 (by rw [← hpe i0' q3];exact (hpg h0' i0' q2 q3 _ memA).1) (has1 (by rw [← hpe i0' q3];exact (hpg h0' i0' q2 q3 _ memA).2) (has1 (by rw [← hle i1' r3'];exact (hlg h1' i1' r2' r3' _ memA).1) (has1 (by rw [← hle i1' r3'];exact (hlg h1' i1' r2' r3' _ memA).2) has0)))))))
   rintro _ _ ⟨n3,d3,rfl,hn3,hd3,rfl⟩
   refine nl ?_
   refine te (fun w' hw=>⟨pt_at memA hw,pt_at memA hw,pt_at memA hw,pt_at memA hw⟩) ?_
   refine tka 13 ?_
   refine tka 14 ?_
   refine tka 15 ?_
   refine t1 17 ?_
   refine srz ?_
   refine nl ?_
   refine te (fun w' hw=>⟨pt_at memA hw,pt_at memA hw,pt_at memA hw,pt_at memA hw⟩) ?_
   refine tka 18 ?_
   refine t0 ?_
   repeat' first|refine lda (cs:=rrow q (n3,d3)) ?_|refine srz ?_ (hj:=Nat.le_of_ble_eq_true rfl)|refine sq ?_|refine rg ?_|refine xc ?_|refine nl ?_|refine rt ?_
   exact rca1 (b:=c7) (cs:=rrow q (n3,d3)) (vs:=rrow q (n3,d3)) (T:=TRt) ⟨⟨a0',h0',i0',a1',h1',i1'⟩,n3,d3,rfl,hn3,hd3,⟨q1,r1',q2,r2',q4,r4',o7,o8⟩,rfl⟩
 ·refine al fun c12=>?_
  refine nl ?_
  refine te (fun w' hw=>⟨pt_at memA hw,pt_at memA hw,pt_at memA hw,pt_at memA hw⟩) ?_
  refine t1 4 ?_
  refine cav (cap:=#[ptr c.pw]) (vs:=[I ((0:Nat):Int),I so,rv p v1 v2]) (hP0 g.a1) ?_
  rintro _ _ ⟨i0',a0',h0',rfl,q1,q2,q3,q4,rfl⟩
  refine nl ?_
  refine te (fun w' hw=>⟨pt_at memA hw,pt_at memA hw,pt_at memA hw,pt_at memA hw⟩) ?_
  refine t1 10 ?_
  refine cav (cap:=#[ptr c.pw]) (vs:=[I ((1:Nat):Int),I ((many - so:Nat):Int),rv (1 - p) c.l1 c.l2]) (hP1 a0') ?_
  rintro _ _ ⟨i1',a1',h1',rfl,r1',r2',r3',r4',rfl⟩
  refine nl ?_
  refine te (fun w' hw=>⟨pt_at memA hw,pt_at memA hw,pt_at memA hw,pt_at memA hw⟩) ?_
  refine t1 11 ?_
  refine slws (sz:=3) (xs:=rrow qc (n1,d1) ++ rrow (p ^ so) (h0'.getD so nS2) ++ rrow ((1 - p) ^ (many - so)) (h1'.getD (many - so) nS2)) fun g2=>?_
  refine nl ?_
  refine te (fun w' hw=>⟨pt_at memA hw,pt_at memA hw,pt_at memA hw,pt_at memA hw⟩) ?_
  refine t1 12 ?_
  refine ca (hMul _ n1 d1 (h0'.getD so nS2).1 (h0'.getD so nS2).2 (h1'.getD (many - so) nS2).1 (h1'.getD (many - so) nS2).2) ?_ (hp:=has1 (has_oww memA) (has1 hasA (has1 hasA (has1 (by rw [← hpe i0' q3];exact (hpg h0' i0' q2 q3 _ memA).1) (has1 (by rw [← hpe i0' q3];exact (hpg h0' i0' q2 q3 _ memA).2) (has1 (by rw [← hle i1' r3'];exact (hlg h1' i1' r2' r3' _ memA).1) (has1 (by rw [← hle i1' r3'];exact (hlg h1' i1' r2' r3' _ memA).2) has0)))))))
  rintro _ _ ⟨n3,d3,rfl,hn3,hd3,rfl⟩
  refine nl ?_
  refine te (fun w' hw=>⟨pt_at memA hw,pt_at memA hw,pt_at memA hw,pt_at memA hw⟩) ?_
  refine tka 13 ?_
  refine tka 14 ?_
  refine tka 15 ?_
  refine t1 17 ?_
  refine srz ?_
  refine nl ?_
  refine te (fun w' hw=>⟨pt_at memA hw,pt_at memA hw,pt_at memA hw,pt_at memA hw⟩) ?_
  refine tka 18 ?_
  refine t0 ?_
  repeat' first|refine lda (cs:=rrow q (n3,d3)) ?_|refine srz ?_ (hj:=Nat.le_of_ble_eq_true rfl)|refine sq ?_|refine rg ?_|refine xc ?_|refine nl ?_|refine rt ?_
  exact rca1 (b:=c7) (cs:=rrow q (n3,d3)) (vs:=rrow q (n3,d3)) (T:=TRt) ⟨⟨a0',h0',i0',a1',h1',i1'⟩,n3,d3,rfl,hn3,hd3,⟨q1,r1',q2,r2',q4,r4',o7,o8⟩,rfl⟩
theorem share_tr (c:ShC) (p:Rat) (v:HV) (g:ShG) (hv1:v.1.oneCell' = true) (hv2:v.2.oneCell' = true) (ho:ShOk c g) (hB:PwB p) (many so:Nat) (hm:many ≤ 12) (hs:so ≤ many) :
  Tr Tryz.prog 215 [I many,I so,ptr c.bq,ptr c.bp,ptr c.bl] [vw v.1 (Us (dg p.num.natAbs)),vw v.2 (Us (dg p.den))] [shB c p v g] fun u D=>∃ g' vn vd,u = rv (shar p many so) vn vd∧vn.oneCell' = true∧vd.oneCell' = true∧ShOk c g'∧D = [own T64 vn (Us (dg (shar p many so).num.natAbs)),own T64 vd (Us (dg (shar p many so).den)),shB c p v g']:=by
 refine (TrB (share0_tr c p v g hv1 hv2 ho hB many so hm hs)).post ?_
 rintro u D ⟨D',⟨g',vn,vd,hu,h1,h2,h3,rfl⟩,rfl⟩
 refine ⟨_,⟨g',vn,vd,hu,h1,h2,h3,rfl⟩,?_,nb1 (nb1 (nb1 nb0))⟩
 have e1:=un_bnd (own T64 vn (Us (dg (shar p many so).num.natAbs)) :: own T64 vd (Us (dg (shar p many so).den)) :: shP c p v g') []
 rw [List.append_nil] at e1
 refine e1.trans (Im.cons _ (Im.cons _ ?_))
 have e2:=im_bnd (shP c p v g') []
 rw [List.append_nil] at e2
 exact e2
end Go.Art
