/- Texts put together: Ye Yf KPick KSame KCopy KOver K StopA StopB StopC StopD StopE Yg Yi Yk Mc Sp Vd Nq Nr Ns Nt Ia Qp Fa Ac Aw Df Zu Fc Fd Fp Qq. Conditions: none. -/
import Derived.Test.YtpabbhpgikdhfaaGreatWPc
set_option linter.unusedSimpArgs false
set_option linter.unusedVariables false
namespace Go.Art
open Go Go.Proofs Go.RowKit
/-! How many sets meet so many. -/
def subs:List Int→List (List Int)
 | []=>[[]]
 | a :: U=>(subs U).map (a :: ·) ++ subs U
theorem ris_step {d f k:Nat} (h:f < k):risR (d + 1) f k = (risR d (f + 1) k).map (fun l=>((f:Nat):Int) :: l) ++ risR (d + 1) (f + 1) k:=by
 show (List.range (k - f)).flatMap (fun j:Nat=>(risR d (f + j + 1) k).map fun l=>((f + j:Nat):Int) :: l) = _
 obtain ⟨m,hm⟩ : ∃ m,k - f = m + 1:=⟨k - f - 1,by omega⟩
 rw [hm,List.range_succ_eq_map,List.flatMap_cons,List.flatMap_map]
 congr 1
 show _ = (List.range (k - (f + 1))).flatMap (fun j:Nat=>(risR d (f + 1 + j + 1) k).map fun l=>((f + 1 + j:Nat):Int) :: l)
 rw [show k - (f + 1) = m by omega]
 refine congrArg (fun g=>(List.range m).flatMap g) (funext fun j=>?_)
 rw [show f + (j + 1) = f + 1 + j by omega]
theorem ris_end {d f k:Nat} (h:k ≤ f):risR (d + 1) f k = []:=by
 show (List.range (k - f)).flatMap _ = _
 rw [show k - f = 0 by omega];rfl
theorem ris_lo:∀ {d f k:Nat} {l:List Int},l ∈ risR d f k→∀ x ∈ l,(f:Int) ≤ x
 | 0,f,k,l,h=>by rw [List.mem_singleton.1 h];intro x hx;cases hx
 | d + 1,f,k,l,h=>by
  obtain ⟨j,hj,h1⟩:=List.mem_flatMap.1 h
  obtain ⟨m,hm,rfl⟩:=List.mem_map.1 h1
  intro x hx
  rcases List.mem_cons.1 hx with rfl | hx
  ·omega
  ·have:=ris_lo hm x hx;omega
theorem ris_hi:∀ {d f k:Nat} {l:List Int},l ∈ risR d f k→l.length = d∧∀ x ∈ l,x < (k:Int)
 | 0,f,k,l,h=>by rw [List.mem_singleton.1 h];exact ⟨rfl,fun x hx=>nomatch hx⟩
 | d + 1,f,k,l,h=>by
  obtain ⟨j,hj,h1⟩:=List.mem_flatMap.1 h
  obtain ⟨m,hm,rfl⟩:=List.mem_map.1 h1
  have hj:=List.mem_range.1 hj
  obtain ⟨g1,g2⟩:=ris_hi hm
  refine ⟨by simp [g1],fun x hx=>?_⟩
  rcases List.mem_cons.1 hx with rfl | hx
  ·omega
  ·exact g2 x hx
theorem ris_nd:∀ {d f k:Nat} {l:List Int},l ∈ risR d f k→l.Pairwise (· < ·)
 | 0,f,k,l,h=>by rw [List.mem_singleton.1 h];exact .nil
 | d + 1,f,k,l,h=>by
  obtain ⟨j,hj,h1⟩:=List.mem_flatMap.1 h
  obtain ⟨m,hm,rfl⟩:=List.mem_map.1 h1
  exact List.pairwise_cons.2 ⟨fun x hx=>by have:=ris_lo hm x hx;omega,ris_nd hm⟩
def fillR (m d:Nat) (T:List Int):Rat:=if T.length ≤ d then (chs m (d - T.length):Rat) else 0
theorem filter_cons_in {U:List Int} {a:Int} {l:List Int} (h:∀ x ∈ l,x ≠ a):(a :: l).filter (fun x=>(a :: U).contains x) = a :: l.filter fun x=>U.contains x:=by
 rw [List.filter_cons,if_pos (by simp)]
 congr 1
 refine List.filter_congr fun x hx=>?_
 have:=h x hx
 simp [this]
theorem ris_sub:∀ {m d f k:Nat} {U:List Int} (G:List Int→Rat),k - f = m→U.Pairwise (· < ·)→(∀ x ∈ U,(f:Int) ≤ x∧x < k) →
  sR (fun S=>G (S.filter fun x=>U.contains x)) (risR d f k) = sR (fun T=>fillR (m - U.length) d T * G T) (subs U)
 | m,0,f,k,U,G,hm,hU,hin=>by
  have key:∀ (V:List Int) (m:Nat),sR (fun T=>fillR m 0 T * G T) (subs V) = G []:=by
   intro V
   induction V with
   | nil=>intro m;simp only [subs,sR,fillR,List.length_nil,Nat.le_refl,if_true,Nat.sub_zero,chs_zero];push_cast;grind
   | cons a V ih=>
    intro m
    simp only [subs]
    rw [sR_app,ih,sR_map,sR_congr (g:=fun _=>0) fun T _=>by unfold fillR;rw [if_neg (by simp)];grind,sR_zero];grind
  rw [key]
  show G ([].filter _) + 0 = G []
  rw [List.filter_nil];grind
 | 0,d + 1,f,k,U,G,hm,hU,hin=>by
  rw [ris_end (by omega)]
  cases U with
  | nil=>simp only [subs,sR,fillR,List.length_nil,Nat.zero_le,if_true,Nat.sub_zero,chs_over (Nat.zero_lt_succ d)];rw [show ((0:Nat):Rat) = 0 from rfl];grind
  | cons a V=>have:=hin a (by simp);omega
 | m + 1,d + 1,f,k,U,G,hm,hU,hin=>by
  rw [ris_step (by omega),sR_app,sR_map]
  have hlo:∀ {d:Nat} {l:List Int},l ∈ risR d (f + 1) k→∀ x ∈ l,x ≠ (f:Int):=fun h x hx=>by have:=ris_lo h x hx;omega
  by_cases hf:(f:Int) ∈ U
  ·cases U with
   | nil=>cases hf
   | cons a V=>
    obtain ⟨hV1,hV2⟩:=List.pairwise_cons.1 hU
    have ha:a = (f:Int):=by
     rcases List.mem_cons.1 hf with h | h
     ·exact h.symm
     ·have h1:=hV1 _ h
      have h2:=hin a (by simp);omega
    subst ha
    have hin':∀ x ∈ V,((f + 1:Nat):Int) ≤ x∧x < k:=fun x hx=>by have h1:=hV1 x hx;have h2:=hin x (by simp [hx]);omega
    have ih1:=ris_sub (m:=m) (d:=d) (f:=f + 1) (k:=k) (U:=V) (fun T=>G ((f:Int) :: T)) (by omega) hV2 hin'
    have ih2:=ris_sub (m:=m) (d:=d + 1) (f:=f + 1) (k:=k) (U:=V) G (by omega) hV2 hin'
    rw [sR_congr fun S hS=>by rw [filter_cons_in (hlo hS)],ih1]
    rw [sR_congr (l:=risR (d + 1) (f + 1) k) (g:=fun S=>G (S.filter fun x=>V.contains x)) fun S hS=>by
     congr 1
     refine List.filter_congr fun x hx=>?_
     have:=hlo hS x hx
     simp [this],ih2]
    simp only [subs]
    rw [sR_app,sR_map]
    congr 1
    ·refine sR_congr fun T _=>?_
     unfold fillR
     simp only [List.length_cons,Nat.add_le_add_iff_right,Nat.add_sub_add_right]
    ·refine sR_congr fun T _=>?_
     simp only [List.length_cons,Nat.add_sub_add_right]
  ·have hin':∀ x ∈ U,((f + 1:Nat):Int) ≤ x∧x < k:=fun x hx=>by
    have h1:=hin x hx
    have:x ≠ (f:Int):=fun e=>hf (e ▸ hx)
    omega
   have ih1:=ris_sub (m:=m) (d:=d) (f:=f + 1) (k:=k) (U:=U) G (by omega) hU hin'
   have ih2:=ris_sub (m:=m) (d:=d + 1) (f:=f + 1) (k:=k) (U:=U) G (by omega) hU hin'
   have hul:U.length ≤ m:=by
    have:∀ (V:List Int) (a:Nat),V.Pairwise (· < ·)→(∀ x ∈ V,(a:Int) ≤ x∧x < k)→V.length ≤ k - a:=by
     intro V
     induction V with
     | nil=>intro a _ _;simp
     | cons b V ih=>
      intro a h1 h2
      obtain ⟨g1,g2⟩:=List.pairwise_cons.1 h1
      have hb:=h2 b (by simp)
      have:=ih (b.toNat + 1) g2 fun x hx=>by have:=g1 x hx;have:=h2 x (by simp [hx]);omega
      simp only [List.length_cons];omega
    have:=this U (f + 1) hU hin'
    omega
   rw [sR_congr fun S hS=>by rw [List.filter_cons,if_neg (by simpa using hf)],ih1,ih2,← sR_add]
   refine sR_congr fun T _=>?_
   unfold fillR
   rw [show m + 1 - U.length = m - U.length + 1 by omega]
   by_cases e1:T.length ≤ d
   ·rw [if_pos e1,if_pos (by omega),if_pos (by omega),show d + 1 - T.length = d - T.length + 1 by omega,chs_succ];push_cast;grind
   ·by_cases e2:T.length ≤ d + 1
    ·rw [if_neg e1,if_pos e2,if_pos e2,show d + 1 - T.length = 0 by omega,chs_zero,chs_zero];grind
    ·rw [if_neg e1,if_neg e2,if_neg e2];grind
theorem subs_len (h:Nat→Rat):∀ U:List Int,sR (fun T=>h T.length) (subs U) = bsum U.length h
 | []=>by simp only [subs,sR,List.length_nil,bsum];grind
 | a :: U=>by
  simp only [subs,List.length_cons,bsum]
  rw [sR_app,sR_map,← subs_len h U,← subs_len (fun i=>h (i + 1)) U,Rat.add_comm]
  simp only [List.length_cons]
theorem subs_mem:∀ {U T:List Int},T ∈ subs U→∀ x ∈ T,x ∈ U
 | [],T,h,x,hx=>by rw [List.mem_singleton.1 h] at hx;cases hx
 | a :: U,T,h,x,hx=>by
  rcases List.mem_append.1 h with h | h
  ·obtain ⟨T',h',rfl⟩:=List.mem_map.1 h
   rcases List.mem_cons.1 hx with rfl | hx
   ·simp
   ·exact List.mem_cons_of_mem _ (subs_mem h' x hx)
  ·exact List.mem_cons_of_mem _ (subs_mem h x hx)
theorem subs_none (g:List Int→Rat):∀ U:List Int,sR (fun T=>if T.length = 0 then g T else 0) (subs U) = g []
 | []=>by simp only [subs,sR,List.length_nil,if_true];grind
 | a :: U=>by
  simp only [subs]
  rw [sR_app,sR_map,subs_none g U,sR_congr (g:=fun _=>0) fun T _=>by simp,sR_zero];grind
theorem subs_one (g:List Int→Rat):∀ U:List Int,sR (fun T=>if T.length = 1 then g T else 0) (subs U) = sR (fun t=>g [t]) U
 | []=>by simp only [subs,sR,List.length_nil];rw [if_neg (by decide)];grind
 | a :: U=>by
  simp only [subs,sR]
  rw [sR_app,sR_map,subs_one g U,← subs_none (fun T=>g (a :: T)) U]
  congr 1
  exact sR_congr fun T _=>by simp
theorem subs_two {s:Int} (g:List Int→Rat):∀ {U:List Int},U.Nodup→s ∈ U→sR (fun T=>if T.length = 2∧s ∈ T then g (T.filter fun x=>decide (x ≠ s)) else 0) (subs U) = sR (fun t=>g [t]) (U.erase s)
 | [],_,h=>by cases h
 | a :: U,hn,h=>by
  obtain ⟨h1,h2⟩:=List.nodup_cons.1 hn
  simp only [subs]
  rw [sR_app,sR_map]
  by_cases e:a = s
  ·subst e
   rw [List.erase_cons_head,← subs_one g U]
   have k1:sR (fun T:List Int=>if T.length = 2∧a ∈ T then g (T.filter fun x=>decide (x ≠ a)) else 0) (subs U) = 0:=by
    rw [sR_congr (g:=fun _=>0) fun T hT=>by rw [if_neg fun h=>h1 (subs_mem hT a h.2)],sR_zero]
   rw [k1,Rat.add_zero]
   refine sR_congr fun T hT=>?_
   have hT2:T.filter (fun x=>decide (x ≠ a)) = T:=List.filter_eq_self.2 fun x hx=>by
    have:x ≠ a:=fun e=>h1 (e ▸ subs_mem hT x hx)
    simp [this]
   by_cases e2:T.length = 1
   ·rw [if_pos e2,if_pos ⟨by simp [e2],by simp⟩,List.filter_cons,if_neg (by simp),hT2]
   ·rw [if_neg e2,if_neg (by simp [e2])]
  ·have hs:s ∈ U:=by
    rcases List.mem_cons.1 h with h | h
    ·exact absurd h.symm e
    ·exact h
   rw [List.erase_cons_tail (by simpa using e),subs_two g h2 hs]
   simp only [sR]
   congr 1
   have k1:=subs_one (fun T=>if s ∈ T then g [a] else 0) U
   rw [sR_congr (f:=fun t=>if s ∈ [t] then g [a] else 0) (g:=fun t=>if t = s then g [a] else 0) fun t _=>by simp [eq_comm]] at k1
   have k2:∀ V:List Int,V.Nodup→sR (fun t=>if t = s then g [a] else 0) V = if s ∈ V then g [a] else 0:=by
    intro V
    induction V with
    | nil=>intro _;simp [sR]
    | cons b V ih=>
     intro hV
     obtain ⟨v1,v2⟩:=List.nodup_cons.1 hV
     simp only [sR]
     rw [ih v2]
     by_cases eb:b = s
     ·subst eb;rw [if_pos rfl,if_neg v1,if_pos (by simp)];grind
     ·rw [if_neg eb]
      have:s ∈ b :: V ↔ s ∈ V:=by simp [Ne.symm eb]
      simp only [this];grind
   rw [k2 U h2,if_pos hs] at k1
   rw [← k1]
   refine sR_congr fun T hT=>?_
   by_cases e2:T.length = 1
   ·by_cases e3:s ∈ T
    ·obtain ⟨z,rfl⟩:=List.length_eq_one_iff.1 e2
     obtain rfl:s = z:=by simpa using e3
     rw [if_pos ⟨by simp,by simp⟩,if_pos e2,if_pos e3]
     congr 1
     rw [List.filter_cons,if_pos (by simpa using e),List.filter_cons,if_neg (by simp),List.filter_nil]
    ·rw [if_neg (by simp [e3,Ne.symm e]),if_pos e2,if_neg e3]
   ·rw [if_neg (by simp [e2]),if_neg e2]
open Go Go.Proofs Go.RowKit
/-! Sets of like size weigh alike. -/
def fillC (m d j:Nat):Rat:=if j ≤ d then (chs m (d - j):Rat) else 0
def evX (m k:Nat) (ω:Nat→Rat):List (List Int × Rat):=(List.range m).flatMap fun i=>(risR (i + 1) 0 k).map fun l=>(l,ω i)
def evQ (m k:Nat) (ω:Nat→Rat) (u:Nat):Rat:=sR (fun i=>ω i * bsum u fun j=>if 2 ≤ j then fillC (k - u) (i + 1) j else 0) (List.range m)
def evP (m k:Nat) (ω:Nat→Rat) (u:Nat):Rat:=sR (fun i=>ω i * fillC (k - u) (i + 1) 2) (List.range m)
def evI (m k:Nat) (ω:Nat→Rat) (u j:Nat):Rat:=sR (fun i=>ω i * ((chs u j:Rat) * fillC (k - u) (i + 1) j)) (List.range m)
theorem sR_flat {α β:Type} (F:β→Rat) (g:α→List β):∀ l:List α,sR F (l.flatMap g) = sR (fun a=>sR F (g a)) l
 | []=>rfl
 | a :: l=>by rw [List.flatMap_cons,sR_app,sR_flat F g l];rfl
theorem sR_if {α:Type} (F:α→Rat) (p:α→Bool):∀ l:List α,sR F (l.filter p) = sR (fun x=>if p x = true then F x else 0) l
 | []=>rfl
 | a :: l=>by
  rw [List.filter_cons]
  simp only [sR]
  rw [← sR_if F p l]
  cases p a
  ·simp only [Bool.false_eq_true,if_false];grind
  ·simp only [if_true,sR]
theorem ev_sum {m k:Nat} {ω:Nat→Rat} {U:List Int} (hU:U.Pairwise (· < ·)) (hin:∀ x ∈ U,0 ≤ x∧x < (k:Int)) (H:List Int→Rat) :
  sR (fun S=>S.2 * H (S.1.filter fun x=>U.contains x)) (evX m k ω) = sR (fun i=>ω i * sR (fun T=>fillC (k - U.length) (i + 1) T.length * H T) (subs U)) (List.range m):=by
 unfold evX
 rw [sR_flat]
 refine sR_congr fun i _=>?_
 rw [sR_map,sR_mul (ω i) (fun S:List Int=>H (S.filter fun x=>U.contains x)),ris_sub (m:=k) H rfl hU fun x hx=>by have:=hin x hx;omega]
 rfl
theorem ev_nd {m k:Nat} {ω:Nat→Rat}:∀ s ∈ evX m k ω,s.1.Pairwise (· < ·)∧∃ i,i < m∧s.1 ∈ risR (i + 1) 0 k∧s.2 = ω i:=fun s hs=>by
 obtain ⟨i,hi,h1⟩:=List.mem_flatMap.1 hs
 obtain ⟨l,hl,rfl⟩:=List.mem_map.1 h1
 exact ⟨ris_nd hl,i,List.mem_range.1 hi,hl,rfl⟩
theorem filter_erase {U:List Int} (hU:U.Nodup) (s:Int) (l:List Int):l.filter (fun x=>(U.erase s).contains x) = (l.filter fun x=>U.contains x).filter fun x=>decide (x ≠ s):=by
 rw [List.filter_filter]
 refine List.filter_congr fun x _=>?_
 rw [Bool.eq_iff_iff]
 simp [hU.mem_erase_iff]
theorem ev_even (m k:Nat) (ω:Nat→Rat):Even k (evX m k ω) (evQ m k ω) (evP m k ω):=by
 refine ⟨fun s hs=>sorted_nd (ev_nd s hs).1,fun U hU hin=>?_,fun U hU hin s hs g=>?_⟩
 ·unfold clo evQ
  rw [sR_if]
  have:=ev_sum (m:=m) (ω:=ω) hU hin fun T=>if 2 ≤ T.length then 1 else 0
  rw [sR_congr (g:=fun S=>S.2 * (fun T:List Int=>if 2 ≤ T.length then 1 else 0) (S.1.filter fun x=>U.contains x)) fun S _=>?_,this]
  ·refine sR_congr fun i _=>?_
   rw [← subs_len]
   congr 1
   refine sR_congr fun T _=>?_
   split <;> grind
  ·unfold cU
   by_cases e:2 ≤ (S.1.filter fun x=>U.contains x).length
   ·simp only [e,decide_true,if_true];grind
   ·simp only [e,decide_false,Bool.false_eq_true,if_false];grind
 ·unfold evP
  have hn:=sorted_nd hU
  rw [sR_if]
  have:=ev_sum (m:=m) (ω:=ω) hU hin fun T=>if T.length = 2∧s ∈ T then g (T.filter fun x=>decide (x ≠ s)) else 0
  rw [sR_congr (g:=fun S=>S.2 * (fun T:List Int=>if T.length = 2∧s ∈ T then g (T.filter fun x=>decide (x ≠ s)) else 0) (S.1.filter fun x=>U.contains x)) fun S _=>?_,this]
  ·rw [← Rat.mul_comm,← sR_mul]
   refine sR_congr fun i _=>?_
   rw [← subs_two g hn hs,Rat.mul_comm (sR _ _),Rat.mul_assoc]
   congr 1
   rw [← sR_mul]
   refine sR_congr fun T _=>?_
   split
   ·rename_i h;rw [h.1]
   ·grind
  ·have hm:s ∈ S.1.filter (fun x=>U.contains x) ↔ s ∈ S.1:=by rw [List.mem_filter];simp [hs]
   unfold cU
   rw [filter_erase hn]
   simp only [hm]
   by_cases e:(S.1.filter fun x=>U.contains x).length = 2∧s ∈ S.1
   ·rw [if_pos e,if_pos (by rw [Bool.and_eq_true];exact ⟨decide_eq_true e.1,by simpa using e.2⟩)]
   ·rw [if_neg e,if_neg (by rw [Bool.and_eq_true];rintro ⟨h1,h2⟩;exact e ⟨of_decide_eq_true h1,by simpa using h2⟩)];grind
theorem ev_one {m k:Nat} {ω:Nat→Rat} {U:List Int} (hU:U.Pairwise (· < ·)) (hin:∀ x ∈ U,0 ≤ x∧x < (k:Int)) (g:List Int→Rat) :
  sR (fun S=>S.2 * g (S.1.filter fun x=>U.contains x)) ((evX m k ω).filter fun S=>decide (cU U S.1 = 1)) = sR (fun i=>ω i * fillC (k - U.length) (i + 1) 1) (List.range m) * sR (fun t=>g [t]) U:=by
 rw [sR_if]
 have:=ev_sum (m:=m) (ω:=ω) hU hin fun T=>if T.length = 1 then g T else 0
 rw [sR_congr (g:=fun S=>S.2 * (fun T:List Int=>if T.length = 1 then g T else 0) (S.1.filter fun x=>U.contains x)) fun S _=>?_,this]
 ·rw [← Rat.mul_comm,← sR_mul]
  refine sR_congr fun i _=>?_
  rw [← subs_one g,Rat.mul_comm (sR _ _),Rat.mul_assoc]
  congr 1
  rw [← sR_mul]
  refine sR_congr fun T _=>?_
  split
  ·rename_i h;rw [h]
  ·grind
 ·unfold cU
  by_cases e:(S.1.filter fun x=>U.contains x).length = 1
  ·simp only [e,decide_true,if_true]
  ·simp only [e,decide_false,Bool.false_eq_true,if_false];grind
theorem evI_two (m k:Nat) (ω:Nat→Rat) (u:Nat):evI m k ω u 2 = (chs u 2:Rat) * evP m k ω u:=by
 unfold evI evP
 rw [← sR_mul]
 exact sR_congr fun i _=>by grind
theorem bsum_range (u:Nat) (h:Nat→Rat):bsum u (fun j=>if 2 ≤ j then h j else 0) = sR (fun j=>(chs u (j + 2):Rat) * h (j + 2)) (List.range (u - 1)):=by
 rw [← bsum_chs,sR_shift]
 cases u with
 | zero=>simp [sR,Rat.mul_zero,Rat.add_zero]
 | succ u=>
  rw [sR_shift,Nat.add_sub_cancel]
  simp only [show ¬ (2 ≤ 0) by decide,show ¬ (2 ≤ 0 + 1) by decide,if_false]
  rw [sR_congr (g:=fun j=>(chs (u + 1) (j + 2):Rat) * h (j + 2)) fun j _=>by rw [if_pos (by omega)]]
  grind
theorem evQ_sum (m k:Nat) (ω:Nat→Rat) (u:Nat):evQ m k ω u = sR (fun j=>evI m k ω u (j + 2)) (List.range (u - 1)):=by
 unfold evQ evI
 rw [sR_comm]
 refine sR_congr fun i _=>?_
 rw [bsum_range,← sR_mul]
theorem evQ_step (m k:Nat) (ω:Nat→Rat) {u:Nat} (hu:u < k):evQ m k ω (u + 1) = (u:Rat) * evP m k ω (u + 1) + evQ m k ω u:=by
 have hE:=ev_even m k ω
 have hU:∀ u,((List.range u).map fun i:Nat=>(i:Int)).Pairwise (· < ·):=fun u=>by
  rw [List.pairwise_map]
  exact List.pairwise_lt_range.imp fun h=>by omega
 obtain ⟨U,hUe⟩ : ∃ U,U = (List.range (u + 1)).map fun i:Nat=>(i:Int):=⟨_,rfl⟩
 have h1:U.Pairwise (· < ·):=hUe ▸ hU (u + 1)
 have hn:=sorted_nd h1
 have hl:U.length = u + 1:=by rw [hUe];simp
 have hin:∀ x ∈ U,0 ≤ x∧x < (k:Int):=fun x hx=>by
  rw [hUe] at hx
  obtain ⟨i,hi,rfl⟩:=List.mem_map.1 hx
  have:=List.mem_range.1 hi;omega
 have hs:(0:Int) ∈ U:=by rw [hUe];exact List.mem_map.2 ⟨0,List.mem_range.2 (by omega),rfl⟩
 have hl':(U.erase 0).length = u:=by rw [List.length_erase_of_mem hs,hl];rfl
 have a1:=hE.cloud U h1 hin
 have a2:=hE.cloud (U.erase 0) (h1.sublist List.erase_sublist) fun x hx=>hin x (List.mem_of_mem_erase hx)
 have a3:=hE.two U h1 hin 0 hs fun _=>1
 rw [hl] at a1 a3
 rw [hl'] at a2
 rw [sR_const,hl'] at a3
 rw [← a1,← a2]
 unfold clo at *
 rw [sR_if] at a3
 rw [sR_if,sR_if,show (u:Rat) * evP m k ω (u + 1) = evP m k ω (u + 1) * ((u:Rat) * 1) by grind,← a3,← sR_add]
 refine sR_congr fun S hS=>?_
 have h2:=cU_erase hn hs (hE.nd S hS)
 by_cases hm:(0:Int) ∈ S.1
 ·rw [if_pos hm] at h2
  have hc:S.1.contains 0 = true:=by simpa using hm
  rw [hc]
  simp only [Bool.and_true,decide_eq_true_eq]
  by_cases e:cU U S.1 = 2
  ·rw [if_pos (by omega),if_pos e,if_neg (by omega)];grind
  ·by_cases e2:2 ≤ cU U S.1
   ·rw [if_pos e2,if_neg e,if_pos (by omega)];grind
   ·rw [if_neg e2,if_neg e,if_neg (by omega)];grind
 ·rw [if_neg hm,Nat.add_zero] at h2
  have hc:S.1.contains 0 = false:=by simpa using hm
  rw [hc,Bool.and_false,h2,if_neg (show ¬ false = true from Bool.false_ne_true),Rat.zero_add]
theorem sR_nonneg {α:Type} {f:α→Rat}:∀ {l:List α},(∀ x ∈ l,0 ≤ f x)→0 ≤ sR f l
 | [],_=>by simp only [sR];exact Rat.le_refl
 | a :: l,h=>by
  have h1:=h a (by simp)
  have h2:=sR_nonneg (l:=l) fun x hx=>h x (by simp [hx])
  simp only [sR];grind
theorem bsum_nonneg:∀ {c:Nat} {f:Nat→Rat},(∀ a,0 ≤ f a)→0 ≤ bsum c f
 | 0,f,h=>h 0
 | c + 1,f,h=>by
  have h1:=bsum_nonneg (c:=c) h
  have h2:=bsum_nonneg (c:=c) fun a=>h (a + 1)
  simp only [bsum];grind
theorem natR_nonneg (n:Nat):(0:Rat) ≤ (n:Rat):=by exact_mod_cast Nat.zero_le n
theorem fillC_nonneg (m d j:Nat):0 ≤ fillC m d j:=by
 unfold fillC;split
 ·exact natR_nonneg _
 ·exact Rat.le_refl
theorem evP_nonneg {m k:Nat} {ω:Nat→Rat} (h:∀ i,i < m→0 ≤ ω i) (u:Nat):0 ≤ evP m k ω u:=
 sR_nonneg fun i hi=>Rat.mul_nonneg (h i (List.mem_range.1 hi)) (fillC_nonneg _ _ _)
theorem evQ_nonneg {m k:Nat} {ω:Nat→Rat} (h:∀ i,i < m→0 ≤ ω i) (u:Nat):0 ≤ evQ m k ω u:=
 sR_nonneg fun i hi=>Rat.mul_nonneg (h i (List.mem_range.1 hi)) (bsum_nonneg fun j=>by
  split
  ·exact fillC_nonneg _ _ _
  ·exact Rat.le_refl)
def freeR (m k:Nat) (ω:Nat→Rat) (u:Nat):Rat:=if evQ m k ω u = 0 then 0 else 2 / (u:Rat) * evI m k ω u 2 / evQ m k ω u
theorem chs_one:∀ n:Nat,chs n 1 = n
 | 0=>rfl
 | n + 1=>by rw [show chs (n + 1) 1 = chs n 0 + chs n 1 from rfl,chs_zero,chs_one n,Nat.add_comm]
theorem chs_two:∀ u:Nat,2 * chs (u + 1) 2 = (u + 1) * u
 | 0=>rfl
 | u + 1=>by
  rw [show chs (u + 1 + 1) 2 = chs (u + 1) 1 + chs (u + 1) 2 from rfl,Nat.mul_add,chs_two u]
  rw [chs_one];grind
theorem free_one {m k:Nat} {ω:Nat→Rat} (h:∀ i,i < m→0 ≤ ω i) {u:Nat} (hu:u < k):evQ m k ω (u + 1) * freeR m k ω (u + 1) = (u:Rat) * evP m k ω (u + 1):=by
 have h1:=evQ_step m k ω hu
 have h2:=evQ_nonneg (k:=k) h u
 have h3:=Rat.mul_nonneg (natR_nonneg u) (evP_nonneg (k:=k) h (u + 1))
 unfold freeR
 by_cases e:evQ m k ω (u + 1) = 0
 ·rw [if_pos e,e]
  rw [e] at h1
  grind
 ·rw [if_neg e,evI_two]
  have h4:(2:Rat) * (chs (u + 1) 2:Rat) = ((u + 1:Nat):Rat) * (u:Rat):=by exact_mod_cast congrArg (Nat.cast (R:=Rat)) (chs_two u)
  have h5:((u + 1:Nat):Rat) ≠ 0:=by
   intro h
   have:((u + 1:Nat):Rat) = ((0:Nat):Rat):=h
   have:=Rat.natCast_inj.1 this
   omega
  generalize ((u + 1:Nat):Rat) = N at *
  generalize evP m k ω (u + 1) = p at *
  generalize evQ m k ω (u + 1) = q at *
  generalize (chs (u + 1) 2:Rat) = c at *
  have:q * (2 / N * (c * p) / q) = (2 * c) * p / N:=by grind
  rw [this,h4]
  grind
theorem free_two {m k:Nat} {ω:Nat→Rat} (h:∀ i,i < m→0 ≤ ω i) {u:Nat} (hu:u < k):evQ m k ω (u + 1) * (1 - freeR m k ω (u + 1)) = evQ m k ω u:=by
 have h1:=free_one h hu
 have h2:=evQ_step m k ω hu
 grind
open Go Go.Proofs Go.RowKit
attribute [local irreducible] Fit pt own ro vw mpc lpt vels rels mow lrc dfr
theorem Pick_tr (x m:Int) (hm:m ≤ 9223372036854775807):Tr Tryz.prog 30 [I x,I m] [] [] fun v D=>v = I (pick x m)∧D = []:=by
 have hf:m ≤ 0∨(0 < m∧0 ≤ x % m∧x % m < m∧(x.tmod m < 0→x.tmod m = x % m - m)∧(¬ x.tmod m < 0→x.tmod m = x % m)):=by
  by_cases h:m ≤ 0
  ·exact .inl h
  ·have h1:=tmod_pick x m (by omega)
   refine .inr ⟨by omega,Int.emod_nonneg x (by omega),Int.emod_lt_of_pos x (by omega),fun hc=>?_,fun hc=>?_⟩
   ·rw [if_pos hc] at h1;exact h1
   ·rw [if_neg hc] at h1;exact h1
 refine Tr.enter env _ Tryz.func30 (by kernel_rfl) rfl Tryz.ntmps30 rfl (by repeat (first | exact has00 | refine has01 ?_)) fun w0=>?_
 repeat' first|refine amodw ?_|(refine wo ?_;first|(refine ao ?_;first|refine aw ?_|refine oa ?_)|refine oa ?_)|(refine gc ?_;first|(refine ci (fun hB=>?_) (fun hB=>?_) <;> try (exfalso;omega)))|refine sq ?_|refine rg ?_|refine xc ?_|refine nl ?_|refine sk ?_|refine rt ?_
 all_goals refine r1 ⟨?_,rfl⟩;simp only [pick]
 ·rw [if_pos hB]
 ·rw [if_neg (by omega)];congr 1;omega
 ·rw [if_neg (by omega)];congr 1;omega
end Go.Art
namespace Go.Art
open Go Go.Proofs Go.RowKit
attribute [local irreducible] Fit pt own ro vw mpc lpt vels rels mow lrc dfr
end Go.Art
namespace Go.Art
open Go Go.Proofs Go.RowKit
attribute [local irreducible] Fit pt own ro vw mpc lpt vels rels mow lrc dfr
end Go.Art
namespace Go.Art
open Go Go.Proofs Go.RowKit
attribute [local irreducible] Fit pt own ro vw mpc lpt vels rels mow lrc dfr
end Go.Art
namespace Go.Art
end Go.Art
set_option maxRecDepth 4000
namespace Go.Art
open Go Go.Proofs Go.RowKit
attribute [local irreducible] Fit pt own ro vw mpc lpt vels rels mow lrc dfr
def upFrom (k:Int):Int→List Int→Bool
 | _,[]=>true
 | last,x :: r=>decide (last < x) && (decide (x < k) && upFrom k x r)
def isSet (k:Int) (l:List Int):Bool:=upFrom k (-1) l && decide (0 < l.length)
theorem drop_cons {l:List Int} {i:Nat} (h:i < l.length):l.drop i = l.getD i 0 :: l.drop (i + 1):=by
 rw [List.drop_eq_getElem_cons h];simp [List.getD_eq_getElem?_getD,h]
theorem and3_no {p q:Prop} [Decidable p] [Decidable q] (h:¬ (p∧q)) (b c:Bool):((decide p && (decide q && b)) && c) = false:=by
 by_cases hp:p <;> by_cases hq:q <;> simp_all
theorem and3_yes {p q:Prop} [Decidable p] [Decidable q] (h:p∧q) (b:Bool):(decide p && (decide q && b)) = b:=by simp [h.1,h.2]
theorem fine_tr (k:Int) (s:Value) (l:List Int):Tr Tryz.prog 190 [I k,s] [vw s (Is l)] [] fun v D=>v = .bool (isSet k l)∧D = []:=by
 refine Tr.enter env _ Tryz.func190 (by kernel_rfl) rfl Tryz.ntmps190 rfl (by repeat (first | exact has00 | refine has01 ?_)) fun w0=>?_
 refine TC.leni (l:=l) fun hl=>?_
 repeat' first|(refine wo ?_;first|(refine ao ?_;first|refine aw ?_|refine aw6 ?_|refine oa ?_|refine adiv ?_|refine amod ?_|refine shr1 ?_|refine shr ?_|refine umod ?_|refine isl ?_|refine ipe ?_|refine ipn ?_|refine ibe ?_)|refine acw ?_|refine ucv ?_|refine anw ?_|refine oa ?_|refine ld ?_|refine ldl ?_|refine lnm ?_|refine ixmn ?_|refine ixm ?_|refine li ?_|refine lb ?_|refine lv ?_|refine ln ?_|refine ixn ?_|refine ix ?_|refine le ?_|refine sr ?_|refine soi ?_|refine sob ?_|refine scm ?_|refine sclm ?_|refine schm ?_|refine gy ?_|refine gn ?_|refine gnn ?_|refine gu ?_|(refine gsi (fun hB=>?_) (fun hB=>?_) <;> try (exfalso;omega))|(refine gsn (fun hB=>?_) (fun hB=>?_) <;> try (exfalso;omega))|(refine gs (fun hB=>?_) (fun hB=>?_) <;> try (exfalso;omega)))|(refine gc ?_;first|refine ct ?_|refine cf ?_|(refine ci (fun hB=>?_) (fun hB=>?_) <;> try (exfalso;omega))|(refine cn (fun hB=>?_) (fun hB=>?_) <;> try (exfalso;omega))|(refine cb (fun hB=>?_) (fun hB=>?_) <;> try (exfalso;omega)))|refine sq ?_|refine rg ?_|refine xc ?_|refine nl ?_|refine sk ?_|refine bk ?_|refine xe ?_|refine rt ?_|refine xb ?_
 refine TC.loop (ι:=Nat × Int) (fun i=>[(5,I i.2),(10,I i.1)]) (fun _=>[]) (fun i=>i.1 ≤ l.length∧upFrom k (-1) l = upFrom k i.2 (l.drop i.1)) (fun i=>l.length - i.1) (0,-1) [0,1,8,9] ⟨by simp,rfl⟩ ?_
 rintro ⟨i,la⟩ ⟨hi,hu⟩
 dsimp only at hi hu ⊢
 by_cases hlt:i < l.length
 ·rw [drop_cons hlt] at hu
  simp only [upFrom] at hu
  repeat' first|(refine wo ?_;first|(refine ao ?_;first|refine aw ?_|refine aw6 ?_|refine oa ?_|refine adiv ?_|refine amod ?_|refine shr1 ?_|refine shr ?_|refine umod ?_|refine isl ?_|refine ipe ?_|refine ipn ?_|refine ibe ?_)|refine acw ?_|refine ucv ?_|refine anw ?_|refine oa ?_|refine ld ?_|refine ldl ?_|refine lnm ?_|refine ixmn ?_|refine ixm ?_|refine li ?_|refine lb ?_|refine lv ?_|refine ln ?_|refine ixn ?_|refine ix ?_|refine le ?_|refine sr ?_|refine soi ?_|refine sob ?_|refine scm ?_|refine sclm ?_|refine schm ?_|refine gy ?_|refine gn ?_|refine gnn ?_|refine gu ?_|(refine gsi (fun hB=>?_) (fun hB=>?_) <;> try (exfalso;omega))|(refine gsn (fun hB=>?_) (fun hB=>?_) <;> try (exfalso;omega))|(refine gs (fun hB=>?_) (fun hB=>?_) <;> try (exfalso;omega)))|(refine gc ?_;first|refine ct ?_|refine cf ?_|(refine ci (fun hB=>?_) (fun hB=>?_) <;> try (exfalso;omega))|(refine cn (fun hB=>?_) (fun hB=>?_) <;> try (exfalso;omega))|(refine cb (fun hB=>?_) (fun hB=>?_) <;> try (exfalso;omega)))|refine sq ?_|refine rg ?_|refine xc ?_|refine nl ?_|refine sk ?_|refine bk ?_|refine xe ?_|refine rt ?_|refine xb ?_|refine rq ?_|refine nq ?_|(refine wq ?_;first|(refine qao ?_;first|refine qaw ?_|refine qa ?_|refine qibe ?_)|refine qacw ?_|refine qa ?_|refine qld ?_|refine qldl ?_|refine qlnm ?_|refine qixmn ?_|refine qixm ?_|refine qli ?_|refine qlb ?_|refine qlv ?_|refine qln ?_|refine qixn ?_|refine qix ?_|refine qle ?_|refine qgy ?_|refine qgn ?_|refine qgu ?_|(refine qgsi (fun hB=>?_) (fun hB=>?_) <;> try (exfalso;omega))|(refine qgsn (fun hB=>?_) (fun hB=>?_) <;> try (exfalso;omega))|(refine qgs (fun hB=>?_) (fun hB=>?_) <;> try (exfalso;omega)))
  all_goals first
   | exact lp (i + 1,l.getD i 0) ⟨by dsimp only;omega,by rw [hu,and3_yes (by omega)]⟩
   | (refine r1 ⟨?_,rfl⟩;rw [isSet,hu,and3_no (by omega)])
 ·repeat' first|(refine wo ?_;first|(refine ao ?_;first|refine aw ?_|refine aw6 ?_|refine oa ?_|refine adiv ?_|refine amod ?_|refine shr1 ?_|refine shr ?_|refine umod ?_|refine isl ?_|refine ipe ?_|refine ipn ?_|refine ibe ?_)|refine acw ?_|refine ucv ?_|refine anw ?_|refine oa ?_|refine ld ?_|refine ldl ?_|refine lnm ?_|refine ixmn ?_|refine ixm ?_|refine li ?_|refine lb ?_|refine lv ?_|refine ln ?_|refine ixn ?_|refine ix ?_|refine le ?_|refine sr ?_|refine soi ?_|refine sob ?_|refine scm ?_|refine sclm ?_|refine schm ?_|refine gy ?_|refine gn ?_|refine gnn ?_|refine gu ?_|(refine gsi (fun hB=>?_) (fun hB=>?_) <;> try (exfalso;omega))|(refine gsn (fun hB=>?_) (fun hB=>?_) <;> try (exfalso;omega))|(refine gs (fun hB=>?_) (fun hB=>?_) <;> try (exfalso;omega)))|(refine gc ?_;first|refine ct ?_|refine cf ?_|(refine ci (fun hB=>?_) (fun hB=>?_) <;> try (exfalso;omega))|(refine cn (fun hB=>?_) (fun hB=>?_) <;> try (exfalso;omega))|(refine cb (fun hB=>?_) (fun hB=>?_) <;> try (exfalso;omega)))|refine sq ?_|refine rg ?_|refine xc ?_|refine nl ?_|refine sk ?_|refine bk ?_|refine xe ?_|refine rt ?_|refine xb ?_
  rw [List.drop_of_length_le (by omega)] at hu
  refine r1 ⟨?_,rfl⟩
  rw [isSet,hu];simp [upFrom]
end Go.Art
set_option maxRecDepth 4000
namespace Go.Art
open Go Go.Proofs Go.RowKit
attribute [local irreducible] Fit pt own ro vw mpc lpt vels rels mow lrc dfr
/-! ### Which of the lists is so -/
theorem IndexFunc_tr (s:Value) (hs:List Value) (ls:List (List Int)) (f:FuncId) (cap:List Value) (pre:List Ch) (p:List Int→Bool)
  (hp:∀ c ∈ pre,∀ A:List Ch,c ∈ A→Has A c) (hf:∀ h l,l ∈ ls→Tr Tryz.prog f (h :: cap) (vw h (Is l) :: pre) [] fun v D=>v = .bool (p l)∧D = []) :
  Tr Tryz.prog 235 [s,.func (.func f) #[] cap.toArray] (vw s hs :: vels hs ls :: pre) [] fun v D=>(∃ i:Int,v = I i∧(0 ≤ i ↔ ls.any p = true))∧D = []:=by
 refine Tr.enter env _ Tryz.func235 (by kernel_rfl) rfl Tryz.ntmps235 rfl (has01 (has01 fun c hc b=>⟨(hp c hc [c] (by simp)).wr b,(hp c hc [c] (by simp)).rd b⟩)) fun w0=>?_
 refine TC.els (hs:=hs) (ls:=ls) (fun hl=>?_)
 refine TC.fact (vw_len (v:=s) (xs:=hs) hasA) fun hlen=>?_
 repeat' first|(refine wo ?_;first|refine oa ?_|refine ln ?_)|refine sq ?_|refine rg ?_|refine xc ?_|refine nl ?_|refine bk ?_
 refine TC.loop (ι:=Nat) (fun i=>[(8,I i)]) (fun _=>[]) (fun i=>i ≤ ls.length∧∀ j,j < i→p (ls.getD j []) = false) (fun i=>ls.length - i) 0 [0,1,6,7] ⟨by omega,by omega⟩ ?_
 rintro i ⟨h1,h2⟩
 by_cases hi:i < ls.length
 ·have hmem:ls.getD i [] ∈ ls:=by rw [List.getD_eq_getElem?_getD,List.getElem?_eq_getElem hi];exact List.getElem_mem hi
  repeat' first|(refine cav (vs:=[hs.getD i nS]) (cap:=cap.toArray) (hf _ _ hmem) ?_ rfl rfl Fit.nil (has1 (has_el (has_vels (by simp)) hi) (fun c hc=>hp c hc _ (by simp [hc]))) rfl;rintro _ _ ⟨rfl,rfl⟩)|(refine wo ?_;first|(refine ao ?_;first|refine aw ?_|refine oa ?_)|refine oa ?_|refine lv ?_|refine ixn ?_)|(refine gc ?_;first|(refine ci (fun hB=>?_) (fun hB=>?_) <;> try (exfalso;omega))|(refine cb (fun hB=>?_) (fun hB=>?_) <;> try (exfalso;omega)))|refine sq ?_|refine rg ?_|refine xc ?_|refine nl ?_|refine sk ?_|refine bk ?_|refine rt ?_|refine xb ?_
  ·exact r1 ⟨⟨i,rfl,fun _=>List.any_eq_true.2 ⟨_,hmem,hB⟩,fun _=>by omega⟩,rfl⟩
  ·refine lp (i + 1) ⟨by omega,fun j hj=>?_⟩
   by_cases e:j = i
   ·rw [e];exact hB
   ·exact h2 j (by omega)
 ·repeat' first|(refine wo ?_;first|(refine ao ?_;first|refine oa ?_)|refine oa ?_)|(refine gc ?_;first|(refine ci (fun hB=>?_) (fun hB=>?_) <;> try (exfalso;omega)))|refine sq ?_|refine rg ?_|refine xc ?_|refine nl ?_|refine xe ?_|refine rt ?_
  refine r1 ⟨⟨-1,rfl,by omega,fun h=>?_⟩,rfl⟩
  obtain ⟨l,hl1,hl2⟩:=List.any_eq_true.1 h
  obtain ⟨j,hj,rfl⟩:=List.mem_iff_getElem.1 hl1
  have:=h2 j (by omega)
  simp [List.getD_eq_getElem?_getD,hj,hl2] at this
theorem ContainsFunc_tr (s:Value) (hs:List Value) (ls:List (List Int)) (f:FuncId) (cap:List Value) (pre:List Ch) (p:List Int→Bool)
  (hp:∀ c ∈ pre,∀ A:List Ch,c ∈ A→Has A c) (hf:∀ h l,l ∈ ls→Tr Tryz.prog f (h :: cap) (vw h (Is l) :: pre) [] fun v D=>v = .bool (p l)∧D = []) :
  Tr Tryz.prog 188 [s,.func (.func f) #[] cap.toArray] (vw s hs :: vels hs ls :: pre) [] fun v D=>v = .bool (ls.any p)∧D = []:=by
 refine Tr.enter env _ Tryz.func188 (by kernel_rfl) rfl Tryz.ntmps188 rfl (has01 (has01 fun c hc b=>⟨(hp c hc [c] (by simp)).wr b,(hp c hc [c] (by simp)).rd b⟩)) fun w0=>?_
 repeat' first|(refine gca ?_;first|(refine ca (vs:=[s,.func (.func f) #[] cap.toArray]) (IndexFunc_tr s hs ls f cap pre p hp hf) ?_ rfl Fit.nil (has1 (has_vw (by simp)) (has1 (has_vels (by simp)) (fun c hc=>hp c hc _ (by simp [hc])))) rfl;rintro _ _ ⟨⟨i,rfl,hi⟩,rfl⟩))|(refine wo ?_;first|(refine ao ?_;first|refine oa ?_)|refine oa ?_)|refine sq ?_|refine rg ?_|refine xc ?_|refine nl ?_|refine rt ?_
 refine r1 ⟨?_,rfl⟩
 congr 1;rw [Bool.eq_iff_iff,decide_eq_true_iff];exact hi
/-! ### In how many symbols two sets meet -/
def meetN (a b:List Int):Nat:=(a.filter fun x=>decide (x ∈ b)).length
end Go.Art
set_option maxRecDepth 4000
namespace Go.Art
open Go Go.Proofs Go.RowKit
attribute [local irreducible] Fit pt own ro vw mpc lpt vels rels mow lrc dfr
def stopE (k:Int) (ls:List (List Int)):Int:=if k < 1∨65536 < k then 3 else if ls.any (fun l=>!isSet k l) then 2 else 0
theorem refuses1_tr (k:Int) (b:Nat) (h:Value) (l:List Int):Tr Tryz.prog 189 [h,ptr b] [vw h (Is l),lpt b [I k] 3] [] fun v D=>v = .bool (!isSet k l)∧D = []:=by
 refine Tr.enter env _ Tryz.func189 (by kernel_rfl) rfl Tryz.ntmps189 rfl (by repeat (first | exact has00 | refine has01 ?_)) fun w0=>?_
 repeat' first|(refine gca ?_;first|(refine ca (fine_tr _ _ _) ?_;rintro _ _ ⟨rfl,rfl⟩))|(refine wo ?_;first|refine oa ?_|refine ldl ?_)|refine sq ?_|refine rg ?_|refine xc ?_|refine nl ?_|refine rt ?_
 exact r1 ⟨rfl,rfl⟩
theorem lpt_hasS {b:Nat} {cs:List Value} {T:TypeId}:∀ c ∈ [lpt b cs T],∀ A:List Ch,c ∈ A→Has A c:=fun c hc A h=>by
 obtain rfl:c = lpt b cs T:=by simpa using hc
 exact has_lpt h
theorem refuses_tr (k:Int) (s:Value) (hs:List Value) (ls:List (List Int)):Tr Tryz.prog 133 [I k,s] [vw s hs,vels hs ls] [] fun v D=>v = I (stopE k ls)∧D = []:=by
 refine Tr.enter env _ Tryz.func133 (by kernel_rfl) rfl Tryz.ntmps133 rfl (by repeat (first | exact has00 | refine has01 ?_)) fun w0=>?_
 repeat' first|(refine gca ?_;first|(refine ca (ContainsFunc_tr s hs ls _ [ptr b] [lpt b [I k] 3] (fun l=>!isSet k l) lpt_hasS (fun h l _=>refuses1_tr k b h l)) ?_;rintro _ _ ⟨rfl,rfl⟩))|refine bx1 fun b=>?_|(refine wo ?_;first|(refine ao ?_;first|refine oa ?_)|refine oa ?_|refine ld ?_|refine gy ?_|refine gn ?_|(refine gsi (fun hB=>?_) (fun hB=>?_) <;> try (exfalso;omega)))|(refine gc ?_;first|refine ct ?_|(refine ci (fun hB=>?_) (fun hB=>?_) <;> try (exfalso;omega))|(refine cb (fun hB=>?_) (fun hB=>?_) <;> try (exfalso;omega)))|refine sq ?_|refine rg ?_|refine xc ?_|refine nl ?_|refine sk ?_|refine bk ?_|refine rt ?_|refine xb ?_
 ·exact r1 ⟨by rw [stopE,if_pos (.inl hB)],rfl⟩
 ·exact r1 ⟨by rw [stopE,if_pos (.inr hB)],rfl⟩
 ·exact r1 ⟨by rw [stopE,if_neg (by omega),if_pos hB],rfl⟩
 ·exact r1 ⟨by rw [stopE,if_neg (by omega),if_neg (by rw [hB];decide)],rfl⟩
/-! ### Stopping sets -/
theorem upFrom_sorted {k:Int}:∀ {l:List Int} {a:Int},upFrom k a l = true→(∀ i,i < l.length→a < l.getD i 0∧l.getD i 0 < k)∧∀ i j,i < j→j < l.length→l.getD i 0 < l.getD j 0
 | [],_,_=>⟨fun i h=>by simp at h,fun i j _ h=>by simp at h⟩
 | x :: r,a,h=>by
  simp only [upFrom,Bool.and_eq_true,decide_eq_true_eq] at h
  obtain ⟨h1,h2⟩:=upFrom_sorted h.2.2
  constructor
  ·intro i hi
   cases i with
   | zero=>exact ⟨h.1,h.2.1⟩
   | succ i=>have:=h1 i (by simpa using hi);simp only [List.getD_cons_succ];omega
  ·intro i j hij hj
   cases j with
   | zero=>omega
   | succ j=>
    cases i with
    | zero=>have:=h1 j (by simpa using hj);simp only [List.getD_cons_succ,List.getD_cons_zero];omega
    | succ i=>simp only [List.getD_cons_succ];exact h2 i j (by omega) (by simpa using hj)
theorem upFrom_len {k:Int}:∀ {l:List Int} {a:Int},upFrom k a l = true→(l.length:Int) ≤ k - 1 - a∨l = []
 | [],_,_=>.inr rfl
 | x :: r,a,h=>by
  simp only [upFrom,Bool.and_eq_true,decide_eq_true_eq] at h
  rcases upFrom_len h.2.2 with h1 | h1
  ·left;simp only [List.length_cons];omega
  ·subst h1;left;simp only [List.length_cons,List.length_nil];omega
theorem isSet_sorted {k:Int} {l:List Int} (h:isSet k l = true):(∀ i,i < l.length→0 ≤ l.getD i 0∧l.getD i 0 < k)∧∀ i j,i < j→j < l.length→l.getD i 0 < l.getD j 0:=by
 simp only [isSet,Bool.and_eq_true] at h
 have:=upFrom_sorted h.1
 exact ⟨fun i hi=>by have:=this.1 i hi;omega,this.2⟩
theorem isSet_len {k:Int} {l:List Int} (h:isSet k l = true):(l.length:Int) ≤ k:=by
 simp only [isSet,Bool.and_eq_true,decide_eq_true_eq] at h
 rcases upFrom_len h.1 with h1 | h1
 ·omega
 ·subst h1;simp at h
def isStop (ls:List (List Int)) (t:List Int):Bool:=!ls.any fun l=>decide ((meetN l t:Int) = 1)
def stopping (k:Int) (ls:List (List Int)) (t:List Int):Bool × Int:=if stopE k ls ≠ 0 then (false,stopE k ls) else if isSet k t = false then (false,2) else (isStop ls t,0)
end Go.Art
set_option maxRecDepth 4000
namespace Go.Art
open Go Go.Proofs Go.RowKit
attribute [local irreducible] Fit pt own ro vw mpc lpt vels rels mow lrc dfr
def meetC (l t:List Int):Nat:=(t.map fun x=>l.count x).sum
theorem nodup_sorted {l:List Int} (h:∀ i j,i < j→j < l.length→l.getD i 0 < l.getD j 0):l.Nodup:=by
 rw [List.nodup_iff_pairwise_ne,List.pairwise_iff_getElem]
 intro i j hi hj hij e
 have:=h i j hij hj
 simp [List.getD_eq_getElem?_getD,hi,hj,e] at this
end Go.Art
set_option maxRecDepth 4000
namespace Go.Art
open Go
inductive Kn (ls:List (List Int)):Int→Prop
 | mk (l:List Int) (s:Int) (hl:l ∈ ls) (hs:s ∈ l) (h:∀ x ∈ l,x ≠ s→Kn ls x):Kn ls s
def cnt (p:Int→Bool) (l:List Int):Nat:=(l.filter p).length
theorem cnt_one {p:Int→Bool} {l:List Int} (h:cnt p l = 1):∃ s,s ∈ l∧p s = true∧∀ x ∈ l,p x = true→x = s:=by
 unfold cnt at h
 obtain ⟨s,hs⟩:=List.length_eq_one_iff.1 h
 have hm:∀ x,x ∈ l∧p x = true ↔ x = s:=fun x=>by rw [← List.mem_filter,hs];simp
 exact ⟨s,((hm s).2 rfl).1,((hm s).2 rfl).2,fun x hx hp=>(hm x).1 ⟨hx,hp⟩⟩
theorem cnt_one_of {p:Int→Bool} {l:List Int} (hn:l.Nodup) {s:Int} (hs:s ∈ l) (hp:p s = true) (h:∀ x ∈ l,x ≠ s→p x = false):cnt p l = 1:=by
 have hm:∀ x,x ∈ l.filter p ↔ x = s:=fun x=>by
  rw [List.mem_filter]
  constructor
  ·rintro ⟨h1,h2⟩
   by_cases e:x = s
   ·exact e
   ·rw [h x h1 e] at h2;cases h2
  ·rintro rfl;exact ⟨hs,hp⟩
 have hnd:(l.filter p).Nodup:=hn.sublist List.filter_sublist
 unfold cnt
 cases hf:l.filter p with
 | nil=>have:=(hm s).2 rfl;rw [hf] at this;cases this
 | cons a r=>
  rw [hf] at hm hnd
  cases r with
  | nil=>rfl
  | cons b r=>
   have h1:=(hm a).1 (by simp)
   have h2:=(hm b).1 (by simp)
   simp [h1,h2] at hnd
theorem Kn.not {ls:List (List Int)} {p:Int→Bool} (hn:∀ l ∈ ls,l.Nodup) (h:∀ l ∈ ls,cnt p l ≠ 1) {s:Int} (hk:Kn ls s):p s = false:=by
 induction hk with
 | mk l s hl hs _ ih=>
  cases hp:p s with
  | false=>rfl
  | true=>exact absurd (cnt_one_of (hn l hl) hs hp ih) (h l hl)
theorem Kn.mono {ls ls':List (List Int)} (h:∀ l ∈ ls,l ∈ ls') {s:Int} (hk:Kn ls s):Kn ls' s:=by
 induction hk with
 | mk l s hl hs _ ih=>exact .mk l s (h l hl) hs ih
theorem Kn.of_cnt {ls:List (List Int)} {p:Int→Bool} {l:List Int} (hl:l ∈ ls) (h:cnt p l = 1) (hp:∀ x ∈ l,p x = false→Kn ls x) {s:Int} (hs:s ∈ l) (hps:p s = true):Kn ls s:=by
 obtain ⟨s',h1,h2,h3⟩:=cnt_one h
 obtain rfl:=h3 s hs hps
 exact .mk l s hl hs fun x hx hne=>hp x hx (by
  cases hq:p x with
  | false=>rfl
  | true=>exact absurd (h3 x hx hq) hne)
def belowI (k:Int):List Int:=(List.range k.toNat).map (fun i:Nat=>(i:Int))
theorem belowI_len (k:Int):(belowI k).length = k.toNat:=by simp [belowI]
theorem mem_belowI {k x:Int}:x ∈ belowI k ↔ 0 ≤ x∧x < k:=by
 simp only [belowI,List.mem_map,List.mem_range]
 constructor
 ·rintro ⟨i,h,rfl⟩;omega
 ·rintro ⟨h1,h2⟩;exact ⟨x.toNat,by omega,by omega⟩
theorem belowI_sorted (k:Int):(belowI k).Pairwise (· < ·):=by
 unfold belowI
 rw [List.pairwise_map]
 exact List.pairwise_lt_range.imp fun h=>by omega
open Classical in
noncomputable def knownL (k:Int) (ls:List (List Int)):List Int:=(belowI k).filter fun s=>decide (Kn ls s)
open Classical in
noncomputable def largeL (k:Int) (ls:List (List Int)):List Int:=(belowI k).filter fun s=>!decide (Kn ls s)
theorem mem_large {k:Int} {ls:List (List Int)} {s:Int}:s ∈ largeL k ls ↔ (0 ≤ s∧s < k)∧¬ Kn ls s:=by
 unfold largeL;rw [List.mem_filter,mem_belowI];simp
theorem known_of {k:Int} {ls:List (List Int)} (p:Int→Bool) (h:∀ s,0 ≤ s→s < k→(p s = true ↔ ¬ Kn ls s)):knownL k ls = (belowI k).filter (fun s=>!p s)∧largeL k ls = (belowI k).filter p:=by
 constructor
 ·refine List.filter_congr fun s hs=>?_
  have:=h s (mem_belowI.1 hs).1 (mem_belowI.1 hs).2
  cases hp:p s <;> simp_all
 ·refine List.filter_congr fun s hs=>?_
  have:=h s (mem_belowI.1 hs).1 (mem_belowI.1 hs).2
  cases hp:p s <;> simp_all
theorem isSet_of {k:Int}:∀ {l:List Int} {a:Int},(a :: l).Pairwise (· < ·)→(∀ x ∈ l,x < k)→upFrom k a l = true
 | [],_,_,_=>rfl
 | x :: r,a,h,hk=>by
  obtain ⟨h1,h2⟩:=List.pairwise_cons.1 h
  simp only [upFrom,Bool.and_eq_true,decide_eq_true_eq]
  exact ⟨h1 x (by simp),hk x (by simp),isSet_of h2 fun y hy=>hk y (by simp [hy])⟩
theorem isSet_iff {k:Int} {l:List Int}:isSet k l = true ↔ l ≠ []∧l.Pairwise (· < ·)∧∀ x ∈ l,0 ≤ x∧x < k:=by
 constructor
 ·intro h
  have h1:=isSet_sorted h
  refine ⟨fun e=>by subst e;simp [isSet] at h,?_,fun x hx=>?_⟩
  ·rw [List.pairwise_iff_getElem]
   intro i j hi hj hij
   have:=h1.2 i j hij hj
   simpa [List.getD_eq_getElem?_getD,hi,hj] using this
  ·obtain ⟨i,hi,rfl⟩:=mem_getD.1 hx;exact h1.1 i hi
 ·rintro ⟨h1,h2,h3⟩
  simp only [isSet,Bool.and_eq_true,decide_eq_true_eq]
  exact ⟨isSet_of (List.pairwise_cons.2 ⟨fun x hx=>by have:=h3 x hx;omega,h2⟩) fun x hx=>(h3 x hx).2,List.length_pos_iff.2 h1⟩
theorem isSet_nodup {k:Int} {l:List Int} (h:isSet k l = true):l.Nodup:=nodup_sorted (isSet_sorted h).2
theorem cnt_drop {p q:Int→Bool} {s:Int} (hs:p s = true) (hq:q s = false) (h:∀ x,x ≠ s→q x = p x):∀ {l:List Int},l.Nodup→cnt p l = cnt q l + if s ∈ l then 1 else 0
 | [],_=>rfl
 | x :: r,hn=>by
  obtain ⟨h1,h2⟩:=List.nodup_cons.1 hn
  have ih:=cnt_drop hs hq h h2
  unfold cnt at ih ⊢
  rw [List.filter_cons,List.filter_cons]
  by_cases e:x = s
  ·subst e
   rw [if_pos hs,if_neg (by simp [hq]),List.length_cons,ih,if_neg h1,if_pos (by simp)]
  ·rw [h x e]
   have hm:s ∈ x :: r ↔ s ∈ r:=by simp [Ne.symm e]
   simp only [hm]
   cases p x <;> simp <;> omega
theorem stopE_zero {k:Int} {ls:List (List Int)} (h:stopE k ls = 0):1 ≤ k∧k ≤ 65536∧∀ l ∈ ls,isSet k l = true:=by
 unfold stopE at h
 split at h
 ·cases h
 ·split at h
  ·cases h
  ·rename_i h1 h2
   refine ⟨by omega,by omega,fun l hl=>?_⟩
   cases hs:isSet k l with
   | true=>rfl
   | false=>exact absurd (List.any_eq_true.2 ⟨l,hl,by simp [hs]⟩) h2
open Go Go.Proofs Go.RowKit
open Classical in
noncomputable def corF (φ:Nat→Rat) (U:List Int) (ls:List (List Int)):Rat:=φ (U.filter fun s=>!decide (Kn (ls.map fun l=>l.filter fun x=>U.contains x) s)).length
theorem Kn.iff {ls ls':List (List Int)} (h:∀ l,l ∈ ls ↔ l ∈ ls') (s:Int):Kn ls s ↔ Kn ls' s:=⟨Kn.mono fun l hl=>(h l).1 hl,Kn.mono fun l hl=>(h l).2 hl⟩
theorem Kn.skip {ls:List (List Int)} {s:Int} (h:Kn ([] :: ls) s):Kn ls s:=by
 induction h with
 | mk l s hl hs _ ih=>
  rcases List.mem_cons.1 hl with rfl | hl
  ·cases hs
  ·exact .mk l s hl hs ih
theorem Kn.one_iff {U l:List Int} {ls:List (List Int)} {s:Int} (hU:U.Nodup) (hs:s ∈ U) (hl:∀ x,x ∈ l∧x ∈ U ↔ x = s) (x:Int) :
  Kn ((l :: ls).map fun l=>l.filter fun x=>U.contains x) x ↔ x = s∨Kn (ls.map fun l=>l.filter fun x=>(U.erase s).contains x) x:=by
 have hm:∀ (l:List Int) (z:Int),z ∈ l.filter (fun x=>U.contains x) ↔ z ∈ l∧z ∈ U:=fun l z=>by rw [List.mem_filter];simp
 have hm':∀ (l:List Int) (z:Int),z ∈ l.filter (fun x=>(U.erase s).contains x) ↔ z ∈ l∧z ≠ s∧z ∈ U:=fun l z=>by rw [List.mem_filter];simp [hU.mem_erase_iff]
 have hks:Kn ((l :: ls).map fun l=>l.filter fun x=>U.contains x) s:=.mk (l.filter fun x=>U.contains x) s (by simp) ((hm l s).2 ((hl s).2 rfl)) fun y hy hne=>absurd ((hl y).1 ((hm l y).1 hy)) hne
 constructor
 ·intro h
  induction h with
  | mk l0 x hl0 hx _ ih=>
   obtain ⟨l1,h1,rfl⟩:=List.mem_map.1 hl0
   obtain ⟨g1,g2⟩:=(hm l1 x).1 hx
   rcases List.mem_cons.1 h1 with rfl | h1
   ·exact .inl ((hl x).1 ⟨g1,g2⟩)
   ·by_cases e:x = s
    ·exact .inl e
    ·refine .inr (.mk (l1.filter fun x=>(U.erase s).contains x) x (List.mem_map.2 ⟨l1,h1,rfl⟩) ((hm' l1 x).2 ⟨g1,e,g2⟩) fun y hy hne=>?_)
     obtain ⟨k1,k2,k3⟩:=(hm' l1 y).1 hy
     exact (ih y ((hm l1 y).2 ⟨k1,k3⟩) hne).resolve_left k2
 ·rintro (rfl | h)
  ·exact hks
  ·induction h with
   | mk l0 x hl0 hx _ ih=>
    obtain ⟨l1,h1,rfl⟩:=List.mem_map.1 hl0
    obtain ⟨g1,g2,g3⟩:=(hm' l1 x).1 hx
    refine .mk (l1.filter fun x=>U.contains x) x (List.mem_map.2 ⟨l1,List.mem_cons_of_mem _ h1,rfl⟩) ((hm l1 x).2 ⟨g1,g3⟩) fun y hy hne=>?_
    obtain ⟨k1,k2⟩:=(hm l1 y).1 hy
    by_cases e:y = s
    ·rw [e];exact hks
    ·exact ih y ((hm' l1 y).2 ⟨k1,e,k2⟩) hne
open Classical in
theorem cor_core {k:Nat} {X:List (List Int)} (φ:Nat→Rat) (hX:∀ l ∈ X,l.Nodup):Core k X φ (corF φ):=by
 refine ⟨fun U l m h=>?_,fun U l ls h=>?_,fun U l ls s _ hs hU hl=>?_,fun U ls hU _ h=>?_⟩
 ·unfold corF
  congr 2
  refine List.filter_congr fun s _=>?_
  have:=Kn.iff (ls:=l.map fun l=>l.filter fun x=>U.contains x) (ls':=m.map fun l=>l.filter fun x=>U.contains x) (fun z=>by simp only [List.mem_map,h.mem_iff]) s
  exact congrArg (fun b=>!b) (decide_eq_decide.2 this)
 ·unfold corF
  congr 2
  refine List.filter_congr fun s _=>?_
  have h0:l.filter (fun x=>U.contains x) = []:=List.eq_nil_of_length_eq_zero h
  have:Kn ((l :: ls).map fun l=>l.filter fun x=>U.contains x) s ↔ Kn (ls.map fun l=>l.filter fun x=>U.contains x) s:=by
   rw [List.map_cons,h0]
   exact ⟨Kn.skip,Kn.mono fun l hl=>List.mem_cons_of_mem _ hl⟩
  exact congrArg (fun b=>!b) (decide_eq_decide.2 this)
 ·unfold corF
  congr 1
  rw [hU.erase_eq_filter,List.filter_filter,← hU.erase_eq_filter]
  congr 1
  refine List.filter_congr fun x _=>?_
  have:=Kn.one_iff (ls:=ls) hU hs hl x
  by_cases e:x = s
  ·rw [decide_eq_true (this.2 (.inl e))];subst e;simp
  ·rw [decide_eq_decide.2 (this.trans ⟨fun h=>h.resolve_left e,.inr⟩)];rw [show (x != s) = true from bne_iff_ne.2 e,Bool.and_true]
 ·unfold corF
  congr 2
  refine List.filter_eq_self.2 fun s hs=>?_
  have:¬ Kn (ls.map fun l=>l.filter fun x=>U.contains x) s:=fun hk=>by
   have:=hk.not (p:=fun x=>U.contains x) (fun l hl=>?_) fun l hl=>?_
   ·simp [hs] at this
   ·obtain ⟨l1,h1,rfl⟩:=List.mem_map.1 hl
    exact (hX l1 (h l1 h1).1).sublist List.filter_sublist
   ·obtain ⟨l1,h1,rfl⟩:=List.mem_map.1 hl
    have h2:=(h l1 h1).2
    unfold cnt
    rw [List.filter_filter]
    simp only [Bool.and_self]
    unfold cU at h2
    omega
  show (!decide _) = true
  rw [decide_eq_false this];rfl
theorem cor_all {φ:Nat→Rat} {k:Nat} {ls:List (List Int)} (h:∀ l ∈ ls,∀ x ∈ l,0 ≤ x∧x < (k:Int)):corF φ (belowI k) ls = φ (largeL k ls).length:=by
 unfold corF largeL
 have:(ls.map fun l=>l.filter fun x=>(belowI k).contains x) = ls:=by
  conv=>rhs;rw [← List.map_id ls]
  refine List.map_congr_left fun l hl=>List.filter_eq_self.2 fun x hx=>?_
  have:=mem_belowI.2 (h l hl x hx)
  simpa using this
 rw [this]
theorem ev_all {m k:Nat} {ω:Nat→Rat}:∀ S ∈ evX m k ω,cU (belowI k) S.1 = S.1.length∧(∀ x ∈ S.1,0 ≤ x∧x < (k:Int))∧1 ≤ S.1.length:=fun S hS=>by
 obtain ⟨_,i,hi,h2,_⟩:=ev_nd S hS
 have h3:=ris_hi h2
 have h4:∀ x ∈ S.1,0 ≤ x∧x < (k:Int):=fun x hx=>⟨by have:=ris_lo h2 x hx;omega,h3.2 x hx⟩
 refine ⟨?_,h4,by omega⟩
 unfold cU
 rw [List.filter_eq_self.2 fun x hx=>by simpa using mem_belowI.2 (h4 x hx)]
theorem ev_belowI (k:Nat):(belowI (k:Int)).Pairwise (· < ·)∧(belowI (k:Int)).length = k∧∀ x ∈ belowI (k:Int),0 ≤ x∧x < (k:Int):=
 ⟨belowI_sorted k,by rw [belowI_len];rfl,fun x hx=>mem_belowI.1 hx⟩
theorem evI_one (m k:Nat) (ω:Nat→Rat):evI m k ω k 1 = (k:Rat) * sR (fun i=>ω i * fillC (k - k) (i + 1) 1) (List.range m):=by
 unfold evI
 rw [← sR_mul]
 refine sR_congr fun i _=>?_
 rw [chs_one];grind
theorem ev_lack {m k:Nat} {ω:Nat→Rat} (h1:sR (·.2) (evX m k ω) = 1):1 - evI m k ω k 1 = evQ m k ω k:=by
 obtain ⟨hU,hl,hin⟩:=ev_belowI k
 have hT:=ev_one (m:=m) (ω:=ω) hU hin fun _=>1
 rw [hl] at hT
 rw [evI_one]
 have hQ:=(ev_even m k ω).cloud (belowI k) hU hin
 rw [hl] at hQ
 rw [← hQ,← h1]
 unfold clo
 rw [sR_const,hl,Rat.mul_one] at hT
 rw [sR_filter (·.2) (fun S=>decide (2 ≤ cU (belowI k) S.1)) (evX m k ω),Rat.mul_comm,← hT]
 have h3:((evX m k ω).filter fun S=>!decide (2 ≤ cU (belowI k) S.1)) = (evX m k ω).filter fun S=>decide (cU (belowI k) S.1 = 1):=List.filter_congr fun S hS=>by
  have:=ev_all S hS
  rw [Bool.eq_iff_iff];simp;omega
 rw [h3,sR_congr (f:=fun S:List Int × Rat=>S.2 * 1) (g:=(·.2)) fun S _=>Rat.mul_one _]
 grind
theorem evQ_le {m k:Nat} {ω:Nat→Rat} (hω:∀ i,i < m→0 ≤ ω i) (h1:sR (·.2) (evX m k ω) = 1) {u:Nat} (hu:u ≤ k):evQ m k ω u ≤ 1:=by
 obtain ⟨_,hl,_⟩:=ev_belowI u
 have hQ:=(ev_even m k ω).cloud (belowI u) (belowI_sorted u) fun x hx=>by have:=mem_belowI.1 hx;omega
 rw [hl] at hQ
 rw [← hQ,← h1]
 unfold clo
 rw [sR_filter (·.2) (fun S=>decide (2 ≤ cU (belowI u) S.1)) (evX m k ω)]
 have:0 ≤ sR (·.2) ((evX m k ω).filter fun S=>!decide (2 ≤ cU (belowI u) S.1)):=sR_nonneg fun S hS=>by
  obtain ⟨_,i,hi,_,h4⟩:=ev_nd S (List.mem_filter.1 hS).1
  rw [h4];exact hω i hi
 grind
theorem ripple_sets {m k:Nat} {ω:Nat→Rat} (φ:Nat→Rat) (hω:∀ i,i < m→0 ≤ ω i) (h1:sR (·.2) (evX m k ω) = 1) (n:Nat) :
  sR (fun u=>φ u * stuckR n u (lvR (evI m k ω k 1) (freeR m k ω) n k (k - u))) (List.range (k + 1)) = tG (evX m k ω) n fun ls=>φ (largeL k ls).length:=by
 obtain ⟨hU,hl,hin⟩:=ev_belowI k
 have hT:=ev_one (m:=m) (ω:=ω) hU hin
 rw [hl] at hT
 refine (ripple_true (cor_core φ fun l hl=>?_) (ev_even m k ω) (fun u hu=>free_one hω hu) (fun u hu=>free_two hω hu) hU hl hin (fun S hS=>?_) hT (evI_one m k ω) (ev_lack h1) n).trans (tG_congr fun ls _ hls=>cor_all fun l hl x hx=>?_)
 ·obtain ⟨S,hS,rfl⟩:=List.mem_map.1 hl
  exact sorted_nd (ev_nd S hS).1
 ·rw [(ev_all S hS).1];exact (ev_all S hS).2.2
 ·obtain ⟨w,hw⟩:=hls l hl
  exact (ev_all _ hw).2.1 x hx
open Go Go.Proofs Go.RowKit
/-! Fractions over one number, and how large they are. -/
def FrQ (E:Nat) (q:Rat):Prop:=∃ a:Nat,q = (a:Rat) / (E:Rat)
theorem nz {n:Nat} (h:n ≠ 0):(n:Rat) ≠ 0:=fun e=>h (by have:(n:Rat) = ((0:Nat):Rat):=e;exact Rat.natCast_inj.1 this)
theorem FrQ.zero (E:Nat):FrQ E 0:=⟨0,by rw [show ((0:Nat):Rat) = 0 from rfl];grind⟩
theorem FrQ.nonneg {E:Nat} {q:Rat} (h:FrQ E q):0 ≤ q:=by
 obtain ⟨a,rfl⟩:=h
 rw [Rat.div_def]
 refine Rat.mul_nonneg (natR_nonneg a) ?_
 rcases Nat.eq_zero_or_pos E with h | h
 ·subst h;rw [show ((0:Nat):Rat) = 0 from rfl,Rat.inv_zero];exact Rat.le_refl
 ·exact Rat.le_of_lt (Rat.inv_pos.2 (by exact_mod_cast h))
theorem FrQ.mul {E D:Nat} {q r:Rat} (h:FrQ E q) (k:FrQ D r):FrQ (E * D) (q * r):=by
 obtain ⟨a,rfl⟩:=h
 obtain ⟨b,rfl⟩:=k
 refine ⟨a * b,?_⟩
 push_cast
 rw [Rat.div_def,Rat.div_def,Rat.div_def,Rat.inv_mul_rev];grind
theorem FrQ.add {E:Nat} {q r:Rat} (h:FrQ E q) (k:FrQ E r):FrQ E (q + r):=by
 obtain ⟨a,rfl⟩:=h
 obtain ⟨b,rfl⟩:=k
 refine ⟨a + b,?_⟩
 push_cast;rw [Rat.div_def,Rat.div_def,Rat.div_def];grind
theorem FrQ.up {E:Nat} {q:Rat} (h:FrQ E q) (m:Nat) (hm:m ≠ 0):FrQ (E * m) q:=by
 obtain ⟨a,rfl⟩:=h
 refine ⟨a * m,?_⟩
 have:=nz hm
 push_cast
 rw [Rat.div_def,Rat.div_def,Rat.inv_mul_rev];grind
theorem FrQ.pow {E:Nat} {q:Rat} (h:FrQ E q):∀ i,FrQ (E ^ i) (q ^ i)
 | 0=>⟨1,by rw [Nat.pow_zero,Rat.pow_zero,show ((1:Nat):Rat) = 1 from rfl];grind⟩
 | i + 1=>by rw [Nat.pow_succ,Rat.pow_succ];exact (FrQ.pow h i).mul h
theorem FrQ.nat (a:Nat):FrQ 1 (a:Rat):=⟨a,by rw [show ((1:Nat):Rat) = 1 from rfl];grind⟩
theorem FrQ.self (q:Rat) (h:0 ≤ q):FrQ q.den q:=by
 have hn:0 ≤ q.num:=Rat.num_nonneg.2 h
 refine ⟨q.num.toNat,?_⟩
 have e:((q.num.toNat:Nat):Rat) = (q.num:Rat):=by
  have:((q.num.toNat:Nat):Int) = q.num:=Int.toNat_of_nonneg hn
  rw [← Rat.intCast_natCast,this]
 rw [e]
 exact (Rat.mkRat_self q).symm.trans (Rat.mkRat_eq_div _ _)
theorem div_le1 {a E:Rat} (hE:0 < E) (h:a / E ≤ 1):a ≤ E:=by
 have h1:=Rat.mul_le_mul_of_nonneg_right h (Rat.le_of_lt hE)
 rw [Rat.one_mul] at h1
 have h2:E ≠ 0:=fun e=>by rw [e] at hE;exact Rat.lt_irrefl hE
 have:a / E * E = a:=by grind
 rwa [this] at h1
theorem le_div1 {a E:Rat} (hE:0 < E) (h:a ≤ E):a / E ≤ 1:=by
 have h1:=Rat.mul_le_mul_of_nonneg_right h (Rat.le_of_lt (Rat.inv_pos.2 hE))
 have h2:E ≠ 0:=fun e=>by rw [e] at hE;exact Rat.lt_irrefl hE
 have:E * E⁻¹ = 1:=by grind
 rw [this] at h1
 rwa [Rat.div_def]
theorem FrQ.lack {E:Nat} {q:Rat} (h:FrQ E q) (hE:E ≠ 0) (h1:q ≤ 1):FrQ E (1 - q):=by
 obtain ⟨a,rfl⟩:=h
 have h0:=nz hE
 have hle:a ≤ E:=by
  have h2:(0:Rat) < (E:Rat):=by exact_mod_cast Nat.pos_of_ne_zero hE
  have:=div_le1 h2 h1
  exact_mod_cast this
 refine ⟨E - a,?_⟩
 have:((E - a:Nat):Rat) = (E:Rat) - (a:Rat):=by
  have:((E - a + a:Nat):Rat) = (E:Rat):=by rw [Nat.sub_add_cancel hle]
  push_cast at this;grind
 rw [this];grind
theorem FrQ.le {E:Nat} {q:Rat} (h:FrQ E q) (hE:E ≠ 0) (h1:q ≤ 1):∃ a,a ≤ E∧q = (a:Rat) / (E:Rat):=by
 obtain ⟨a,rfl⟩:=h
 refine ⟨a,?_,rfl⟩
 have h2:(0:Rat) < (E:Rat):=by exact_mod_cast Nat.pos_of_ne_zero hE
 have:=div_le1 h2 h1
 exact_mod_cast this
theorem pow_nonnegR {q:Rat} (h:0 ≤ q):∀ i:Nat,0 ≤ q ^ i
 | 0=>by rw [Rat.pow_zero];decide
 | i + 1=>by rw [Rat.pow_succ];exact Rat.mul_nonneg (pow_nonnegR h i) h
theorem pow_leR {q:Rat} (h:0 ≤ q) (h1:q ≤ 1):∀ i:Nat,q ^ i ≤ 1
 | 0=>by rw [Rat.pow_zero];exact Rat.le_refl
 | i + 1=>by
  rw [Rat.pow_succ]
  have:=Rat.mul_le_mul_of_nonneg_right (pow_leR h h1 i) h
  grind
/-! Chances. -/
structure Ch01 (F:Nat) (p:Rat):Prop where
 fr:FrQ F p
 le:p ≤ 1
 nz:F ≠ 0
theorem shar_nonneg {F:Nat} {p:Rat} (h:Ch01 F p) (m s:Nat):0 ≤ shar p m s:=by
 unfold shar
 have h1:=h.le
 exact Rat.mul_nonneg (Rat.mul_nonneg (natR_nonneg _) (pow_nonnegR h.fr.nonneg _)) (pow_nonnegR (by grind) _)
theorem le_sR {α:Type} {f:α→Rat}:∀ {l:List α} {a:α},(∀ x ∈ l,0 ≤ f x)→a ∈ l→f a ≤ sR f l
 | b :: l,a,h,hm=>by
  have h1:=h b (by simp)
  have h2:=sR_nonneg (l:=l) fun x hx=>h x (by simp [hx])
  simp only [sR]
  rcases List.mem_cons.1 hm with rfl | hm
  ·grind
  ·have:=le_sR (l:=l) (fun x hx=>h x (by simp [hx])) hm
   grind
theorem shar_sum (p:Rat) (m:Nat):sR (fun s=>shar p m s) (List.range (m + 1)) = 1:=by
 have:=bsum_shar p m fun _=>1
 rw [sR_congr (g:=fun s=>shar p m s) fun s _=>Rat.mul_one _] at this
 rw [this,bsum_congr (g:=fun a=>p ^ a * (1 - p) ^ (m - a)) fun a _=>Rat.mul_one _,bsum_pow,show p + (1 - p) = 1 by grind,one_powR]
theorem shar_le {F:Nat} {p:Rat} (h:Ch01 F p) {m s:Nat} (hs:s ≤ m):shar p m s ≤ 1:=by
 rw [← shar_sum p m]
 exact le_sR (fun x _=>shar_nonneg h m x) (List.mem_range.2 (by omega))
theorem shar_fr {F:Nat} {p:Rat} (h:Ch01 F p) {m s n:Nat} (hs:s ≤ m) (hm:m ≤ n):FrQ (F ^ n) (shar p m s):=by
 have h1:=((FrQ.nat (chs m s)).mul (h.fr.pow s)).mul ((h.fr.lack h.nz h.le).pow (m - s))
 rw [Nat.one_mul,← Nat.pow_add,show s + (m - s) = m by omega] at h1
 have h2:=h1.up (F ^ (n - m)) (Nat.ne_of_gt (Nat.pow_pos (Nat.pos_of_ne_zero h.nz)))
 rw [← Nat.pow_add,show m + (n - m) = n by omega] at h2
 exact h2
/-! Levels. -/
structure Lv (n E:Nat) (l:List Rat):Prop where
 len:l.length = (n + 1) * (n + 1)
 fr:∀ i,i < (n + 1) * (n + 1)→FrQ E (l.getD i 0)
def tot (n:Nat) (l:List Rat):Rat:=dot n (fun _ _=>1) l
theorem tot_eq (n:Nat) (l:List Rat):tot n l = sR (fun i=>l.getD i 0) (List.range ((n + 1) * (n + 1))):=sR_congr fun i _=>by unfold dotF;exact Rat.mul_one _
theorem Lv.le_tot {n E:Nat} {l:List Rat} (h:Lv n E l) {i:Nat} (hi:i < (n + 1) * (n + 1)):l.getD i 0 ≤ tot n l:=by
 rw [tot_eq]
 exact le_sR (f:=fun i=>l.getD i 0) (fun x hx=>(h.fr x (List.mem_range.1 hx)).nonneg) (List.mem_range.2 hi)
theorem Lv.set {n E:Nat} {l:List Rat} (h:Lv n E l) {j:Nat} (hj:j < (n + 1) * (n + 1)) {x:Rat} (hx:FrQ E x):Lv n E (l.set j x):=
 ⟨by rw [List.length_set,h.len],fun i hi=>by
  rw [getD_setR _ _ _ _ (by rw [h.len];exact hj)]
  split
  ·exact hx
  ·exact h.fr i hi⟩
theorem Lv.add {n E:Nat} {l:List Rat} (h:Lv n E l) {j:Nat} (hj:j < (n + 1) * (n + 1)) {x:Rat} (hx:FrQ E x):Lv n E (addAt l j x):=h.set hj ((h.fr j hj).add hx)
theorem Lv.zero (n E:Nat):Lv n E (List.replicate ((n + 1) * (n + 1)) 0):=⟨by simp,fun i _=>by rw [getD_repl];exact FrQ.zero E⟩
theorem tot_add {n E:Nat} {l:List Rat} (h:Lv n E l) {j:Nat} (hj:j < (n + 1) * (n + 1)) (x:Rat):tot n (addAt l j x) = tot n l + x:=by
 unfold tot;rw [dot_addAt h.len hj,Rat.mul_one]
theorem tot_next {n:Nat} {f g:Rat} {x:List Rat} (hx:Supp n x):tot n (nextR f g n x) = sR (fun i=>if i % (n + 1) = 0 then 0 else x.getD i 0) (List.range ((n + 1) * (n + 1))):=by
 unfold tot
 rw [next_dot hx]
 refine sR_congr fun i _=>?_
 split
 ·rfl
 ·rw [bsum_congr (g:=fun a=>f ^ a * (1 - f) ^ (i / (n + 1) - a)) fun a _=>?_,bsum_pow,show f + (1 - f) = 1 by grind,one_powR,Rat.mul_one]
  rw [bsum_congr (g:=fun b=>(f ^ a * (1 - f) ^ (i / (n + 1) - a)) * (g ^ b * (1 - g) ^ (i % (n + 1) - 1 - b))) fun b _=>Rat.mul_one _,bsum_mul,bsum_pow,show g + (1 - g) = 1 by grind,one_powR,Rat.mul_one]
theorem sR_le {α:Type} {f g:α→Rat}:∀ {l:List α},(∀ x ∈ l,f x ≤ g x)→sR f l ≤ sR g l
 | [],_=>Rat.le_refl
 | a :: l,h=>by
  have h1:=h a (by simp)
  have h2:=sR_le (l:=l) fun x hx=>h x (by simp [hx])
  simp only [sR];grind
theorem tot_next_le {n E:Nat} {f g:Rat} {x:List Rat} (hx:Supp n x) (hl:Lv n E x):tot n (nextR f g n x) ≤ tot n x:=by
 rw [tot_next hx,tot_eq]
 refine sR_le fun i hi=>?_
 split
 ·exact (hl.fr i (List.mem_range.1 hi)).nonneg
 ·exact Rat.le_refl
theorem tot_first (p:Rat) (n:Nat):tot n (firstR p n) = 1:=by
 unfold tot
 rw [first_dot,bsum_congr (g:=fun r=>p ^ r * (1 - p) ^ (n - r)) fun r _=>Rat.mul_one _,bsum_pow,show p + (1 - p) = 1 by grind,one_powR]
theorem Lv.first {F:Nat} {p:Rat} (h:Ch01 F p) (n:Nat):Lv n (F ^ n) (firstR p n):=by
 unfold firstR
 refine foldl_inv (Lv n (F ^ n)) (fun r hr l hl=>?_) (Lv.zero n _)
 have hr:=List.mem_range.1 hr
 exact hl.set (place_lt (by omega) (by omega)) (shar_fr h (by omega) (by omega))
/-! The step, as far as it has come. -/
def outN (n:Nat) (f g:Rat) (x:List Rat) (i:Nat):List Rat:=
 (List.range i).foldl (fun l i=>if i % (n + 1) = 0∨x.getD i 0 = 0 then l else inR n f g (x.getD i 0) (i / (n + 1)) (i % (n + 1)) l) (List.replicate ((n + 1) * (n + 1)) 0)
def outA (n:Nat) (f g y:Rat) (c r:Nat) (l:List Rat) (a:Nat):List Rat:=
 (List.range a).foldl (fun l a=>if shar f c a = 0 then l else (List.range r).foldl (fun l b=>addAt l ((c - a) * (n + 1) + (r - 1 - b + a)) (y * shar f c a * shar g (r - 1) b)) l) l
def outB (n:Nat) (f g y:Rat) (c r a:Nat) (l:List Rat) (b:Nat):List Rat:=
 (List.range b).foldl (fun l b=>addAt l ((c - a) * (n + 1) + (r - 1 - b + a)) (y * shar f c a * shar g (r - 1) b)) l
theorem outN_all (n:Nat) (f g:Rat) (x:List Rat):outN n f g x ((n + 1) * (n + 1)) = nextR f g n x:=rfl
theorem outN_zero (n:Nat) (f g:Rat) (x:List Rat):outN n f g x 0 = List.replicate ((n + 1) * (n + 1)) 0:=rfl
theorem outN_skip {n:Nat} {f g:Rat} {x:List Rat} {i:Nat} (h:i % (n + 1) = 0∨x.getD i 0 = 0):outN n f g x (i + 1) = outN n f g x i:=by
 unfold outN;rw [List.range_succ,List.foldl_append,List.foldl_cons,List.foldl_nil,if_pos h]
theorem outN_step {n:Nat} {f g:Rat} {x:List Rat} {i:Nat} (h:¬ (i % (n + 1) = 0∨x.getD i 0 = 0)):outN n f g x (i + 1) = outA n f g (x.getD i 0) (i / (n + 1)) (i % (n + 1)) (outN n f g x i) (i / (n + 1) + 1):=by
 unfold outN;rw [List.range_succ,List.foldl_append,List.foldl_cons,List.foldl_nil,if_neg h];rfl
theorem outA_zero (n:Nat) (f g y:Rat) (c r:Nat) (l:List Rat):outA n f g y c r l 0 = l:=rfl
theorem outA_skip {n:Nat} {f g y:Rat} {c r:Nat} {l:List Rat} {a:Nat} (h:shar f c a = 0):outA n f g y c r l (a + 1) = outA n f g y c r l a:=by
 unfold outA;rw [List.range_succ,List.foldl_append,List.foldl_cons,List.foldl_nil,if_pos h]
theorem outA_step {n:Nat} {f g y:Rat} {c r:Nat} {l:List Rat} {a:Nat} (h:¬ shar f c a = 0):outA n f g y c r l (a + 1) = outB n f g y c r a (outA n f g y c r l a) r:=by
 unfold outA;rw [List.range_succ,List.foldl_append,List.foldl_cons,List.foldl_nil,if_neg h];rfl
theorem outB_zero (n:Nat) (f g y:Rat) (c r a:Nat) (l:List Rat):outB n f g y c r a l 0 = l:=rfl
theorem outB_step (n:Nat) (f g y:Rat) (c r a:Nat) (l:List Rat) (b:Nat):outB n f g y c r a l (b + 1) = addAt (outB n f g y c r a l b) ((c - a) * (n + 1) + (r - 1 - b + a)) (y * shar f c a * shar g (r - 1) b):=by
 unfold outB;rw [List.range_succ,List.foldl_append,List.foldl_cons,List.foldl_nil]
structure Gr (n E:Nat) (l m:List Rat):Prop where
 lv:Lv n E m
 le:tot n l ≤ tot n m
theorem Gr.refl {n E:Nat} {l:List Rat} (h:Lv n E l):Gr n E l l:=⟨h,Rat.le_refl⟩
theorem Gr.trans {n E:Nat} {l m k:List Rat} (h:Gr n E l m) (h2:Gr n E m k):Gr n E l k:=⟨h2.lv,Rat.le_trans h.le h2.le⟩
theorem gr_fold {α:Type} {n E:Nat} {st:List Rat→α→List Rat}:∀ {M:List α} {l:List Rat},(∀ a ∈ M,∀ l,Lv n E l→Gr n E l (st l a))→Lv n E l→Gr n E l (M.foldl st l)
 | [],_,_,h=>Gr.refl h
 | a :: M,l,H,h=>(H a (by simp) l h).trans (gr_fold (M:=M) (fun b hb=>H b (by simp [hb])) (H a (by simp) l h).lv)
theorem gr_range {n E:Nat} {st:List Rat→Nat→List Rat} {l:List Rat} {m m':Nat} (hm:m ≤ m') (H:∀ a,a < m'→∀ l,Lv n E l→Gr n E l (st l a)) (h:Lv n E l):Gr n E ((List.range m).foldl st l) ((List.range m').foldl st l):=by
 obtain ⟨q,rfl⟩:=Nat.exists_eq_add_of_le hm
 rw [List.range_add,List.foldl_append]
 refine gr_fold (fun a ha l hl=>?_) (gr_fold (fun a ha l hl=>H a (by have:=List.mem_range.1 ha;omega) l hl) h).lv
 obtain ⟨i,hi,rfl⟩:=List.mem_map.1 ha
 exact H _ (by have:=List.mem_range.1 hi;omega) l hl
theorem gr_b {n E F u:Nat} {f y:Rat} (hf:Ch01 F f) (hg:Ch01 u (1 / (u:Rat))) (hy:FrQ E y) {c r a b:Nat} (hcr:c + r ≤ n) (ha:a ≤ c) (hb:b < r) (l:List Rat) (hl:Lv n (E * (F ^ n * u ^ n)) l) :
  Gr n (E * (F ^ n * u ^ n)) l (addAt l ((c - a) * (n + 1) + (r - 1 - b + a)) (y * shar f c a * shar (1 / (u:Rat)) (r - 1) b)):=by
 have hj:=place_lt (n:=n) (q:=c - a) (r:=r - 1 - b + a) (by omega) (by omega)
 have hx:FrQ (E * (F ^ n * u ^ n)) (y * shar f c a * shar (1 / (u:Rat)) (r - 1) b):=by
  rw [← Nat.mul_assoc]
  exact (hy.mul (shar_fr hf ha (by omega))).mul (shar_fr hg (by omega) (by omega))
 refine ⟨hl.add hj hx,?_⟩
 rw [tot_add hl hj]
 have:=hx.nonneg
 grind
theorem gr_B {n E F u:Nat} {f y:Rat} (hf:Ch01 F f) (hg:Ch01 u (1 / (u:Rat))) (hy:FrQ E y) {c r a b b':Nat} (hcr:c + r ≤ n) (ha:a ≤ c) (hbb:b ≤ b') (hb:b' ≤ r) {l:List Rat} (hl:Lv n (E * (F ^ n * u ^ n)) l) :
  Gr n (E * (F ^ n * u ^ n)) (outB n f (1 / (u:Rat)) y c r a l b) (outB n f (1 / (u:Rat)) y c r a l b'):=
 gr_range hbb (fun b hb' l hl=>gr_b hf hg hy hcr ha (by omega) l hl) hl
theorem gr_a {n E F u:Nat} {f y:Rat} (hf:Ch01 F f) (hg:Ch01 u (1 / (u:Rat))) (hy:FrQ E y) {c r a:Nat} (hcr:c + r ≤ n) (ha:a ≤ c) (l:List Rat) (hl:Lv n (E * (F ^ n * u ^ n)) l) :
  Gr n (E * (F ^ n * u ^ n)) l (if shar f c a = 0 then l else (List.range r).foldl (fun l b=>addAt l ((c - a) * (n + 1) + (r - 1 - b + a)) (y * shar f c a * shar (1 / (u:Rat)) (r - 1) b)) l):=by
 split
 ·exact Gr.refl hl
 ·exact gr_B hf hg hy hcr ha (Nat.zero_le r) (Nat.le_refl _) hl
theorem gr_A {n E F u:Nat} {f y:Rat} (hf:Ch01 F f) (hg:Ch01 u (1 / (u:Rat))) (hy:FrQ E y) {c r a a':Nat} (hcr:c + r ≤ n) (haa:a ≤ a') (ha:a' ≤ c + 1) {l:List Rat} (hl:Lv n (E * (F ^ n * u ^ n)) l) :
  Gr n (E * (F ^ n * u ^ n)) (outA n f (1 / (u:Rat)) y c r l a) (outA n f (1 / (u:Rat)) y c r l a'):=
 gr_range haa (fun a ha' l hl=>gr_a hf hg hy hcr (by omega) l hl) hl
theorem gr_n {n E F u:Nat} {f:Rat} {x:List Rat} (hf:Ch01 F f) (hg:Ch01 u (1 / (u:Rat))) (hs:Supp n x) (hx:Lv n E x) {i:Nat} (hi:i < (n + 1) * (n + 1)) (l:List Rat) (hl:Lv n (E * (F ^ n * u ^ n)) l) :
  Gr n (E * (F ^ n * u ^ n)) l (if i % (n + 1) = 0∨x.getD i 0 = 0 then l else inR n f (1 / (u:Rat)) (x.getD i 0) (i / (n + 1)) (i % (n + 1)) l):=by
 split
 ·exact Gr.refl hl
 ·rename_i e
  have hcr:i / (n + 1) + i % (n + 1) ≤ n:=by
   rcases Nat.lt_or_ge n (i / (n + 1) + i % (n + 1)) with h1 | h1
   ·exact absurd (.inr (hs.z i hi h1)) e
   ·exact h1
  exact gr_A hf hg (hx.fr i hi) hcr (Nat.zero_le _) (Nat.le_refl _) hl
theorem gr_N {n E F u:Nat} {f:Rat} {x:List Rat} (hf:Ch01 F f) (hg:Ch01 u (1 / (u:Rat))) (hs:Supp n x) (hx:Lv n E x) {i i':Nat} (hii:i ≤ i') (hi:i' ≤ (n + 1) * (n + 1)) :
  Gr n (E * (F ^ n * u ^ n)) (outN n f (1 / (u:Rat)) x i) (outN n f (1 / (u:Rat)) x i'):=
 gr_range hii (fun i hi' l hl=>gr_n hf hg hs hx (by omega) l hl) (Lv.zero n _)
theorem out_ok {n E F u:Nat} {f:Rat} {x:List Rat} (hf:Ch01 F f) (hg:Ch01 u (1 / (u:Rat))) (hs:Supp n x) (hx:Lv n E x) (ht:tot n x ≤ 1) {i:Nat} (hi:i ≤ (n + 1) * (n + 1)) :
  Lv n (E * (F ^ n * u ^ n)) (outN n f (1 / (u:Rat)) x i)∧tot n (outN n f (1 / (u:Rat)) x i) ≤ 1:=by
 refine ⟨(gr_N hf hg hs hx (Nat.zero_le i) hi).lv,?_⟩
 have h1:=(gr_N hf hg hs hx hi (Nat.le_refl _)).le
 rw [outN_all] at h1
 exact Rat.le_trans h1 (Rat.le_trans (tot_next_le hs hx) ht)
theorem out_okA {n E F u:Nat} {f:Rat} {x:List Rat} (hf:Ch01 F f) (hg:Ch01 u (1 / (u:Rat))) (hs:Supp n x) (hx:Lv n E x) (ht:tot n x ≤ 1) {i:Nat} (hi:i < (n + 1) * (n + 1)) (h:¬ (i % (n + 1) = 0∨x.getD i 0 = 0)) {a:Nat} (ha:a ≤ i / (n + 1) + 1) :
  Lv n (E * (F ^ n * u ^ n)) (outA n f (1 / (u:Rat)) (x.getD i 0) (i / (n + 1)) (i % (n + 1)) (outN n f (1 / (u:Rat)) x i) a)∧tot n (outA n f (1 / (u:Rat)) (x.getD i 0) (i / (n + 1)) (i % (n + 1)) (outN n f (1 / (u:Rat)) x i) a) ≤ 1:=by
 have hcr:i / (n + 1) + i % (n + 1) ≤ n:=by
  rcases Nat.lt_or_ge n (i / (n + 1) + i % (n + 1)) with h1 | h1
  ·exact absurd (.inr (hs.z i hi h1)) h
  ·exact h1
 have h0:=(out_ok hf hg hs hx ht (i:=i) (by omega)).1
 refine ⟨(gr_A hf hg (hx.fr i hi) hcr (Nat.zero_le a) ha h0).lv,?_⟩
 have h1:=(gr_A hf hg (hx.fr i hi) hcr ha (Nat.le_refl _) h0).le
 rw [← outN_step h] at h1
 exact Rat.le_trans h1 (out_ok hf hg hs hx ht (i:=i + 1) (by omega)).2
theorem out_okB {n E F u:Nat} {f:Rat} {x:List Rat} (hf:Ch01 F f) (hg:Ch01 u (1 / (u:Rat))) (hs:Supp n x) (hx:Lv n E x) (ht:tot n x ≤ 1) {i:Nat} (hi:i < (n + 1) * (n + 1)) (h:¬ (i % (n + 1) = 0∨x.getD i 0 = 0)) {a:Nat} (ha:a ≤ i / (n + 1)) (h2:¬ shar f (i / (n + 1)) a = 0) {b:Nat} (hb:b ≤ i % (n + 1)) :
  Lv n (E * (F ^ n * u ^ n)) (outB n f (1 / (u:Rat)) (x.getD i 0) (i / (n + 1)) (i % (n + 1)) a (outA n f (1 / (u:Rat)) (x.getD i 0) (i / (n + 1)) (i % (n + 1)) (outN n f (1 / (u:Rat)) x i) a) b) ∧
  tot n (outB n f (1 / (u:Rat)) (x.getD i 0) (i / (n + 1)) (i % (n + 1)) a (outA n f (1 / (u:Rat)) (x.getD i 0) (i / (n + 1)) (i % (n + 1)) (outN n f (1 / (u:Rat)) x i) a) b) ≤ 1:=by
 have hcr:i / (n + 1) + i % (n + 1) ≤ n:=by
  rcases Nat.lt_or_ge n (i / (n + 1) + i % (n + 1)) with h1 | h1
  ·exact absurd (.inr (hs.z i hi h1)) h
  ·exact h1
 have h0:=(out_okA hf hg hs hx ht hi h (a:=a) (by omega)).1
 refine ⟨(gr_B hf hg (hx.fr i hi) hcr ha (Nat.zero_le b) hb h0).lv,?_⟩
 have h1:=(gr_B hf hg (hx.fr i hi) hcr ha hb (Nat.le_refl _) h0).le
 rw [← outA_step h2] at h1
 exact Rat.le_trans h1 (out_okA hf hg hs hx ht hi h (a:=a + 1) (by omega)).2
theorem one_over {u:Nat} (hu:u ≠ 0):Ch01 u (1 / (u:Rat)):=by
 refine ⟨⟨1,rfl⟩,?_,hu⟩
 have h2:(0:Rat) < (u:Rat):=by exact_mod_cast Nat.pos_of_ne_zero hu
 refine le_div1 h2 ?_
 exact_mod_cast Nat.one_le_iff_ne_zero.2 hu
def lvE (Fp:Nat) (F:Nat→Nat) (n k:Nat):Nat→Nat
 | 0=>Fp ^ n
 | j + 1=>lvE Fp F n k j * (F (k - j) ^ n * (k - j) ^ n)
theorem lv_ok {Fp:Nat} {p:Rat} {F:Nat→Nat} {f:Nat→Rat} {n k:Nat} (hp:Ch01 Fp p) (hf:∀ u,1 ≤ u→u ≤ k→Ch01 (F u) (f u)):∀ j,j ≤ k→Lv n (lvE Fp F n k j) (lvR p f n k j)∧tot n (lvR p f n k j) ≤ 1
 | 0,_=>⟨Lv.first hp n,by rw [lvR,tot_first];exact Rat.le_refl⟩
 | j + 1,h=>by
  obtain ⟨h1,h2⟩:=lv_ok (n:=n) hp hf j (by omega)
  have:=out_ok (hf (k - j) (by omega) (by omega)) (one_over (u:=k - j) (by omega)) (supp_lv p f n k j) h1 h2 (Nat.le_refl _)
  exact this
open Go Go.Proofs Go.RowKit
/-! How large the chances are, of natural weights. -/
theorem FrQ.sum {α:Type} {E:Nat} {f:α→Rat}:∀ {l:List α},(∀ x ∈ l,FrQ E (f x))→FrQ E (sR f l)
 | [],_=>FrQ.zero E
 | a :: l,h=>(h a (by simp)).add (FrQ.sum (l:=l) fun x hx=>h x (by simp [hx]))
def natW (w:Nat→Nat) (D:Nat) (i:Nat):Rat:=(w i:Rat) / (D:Rat)
theorem natW_nonneg (w:Nat→Nat) (D i:Nat):0 ≤ natW w D i:=FrQ.nonneg (E:=D) ⟨_,rfl⟩
def fillN (m d j:Nat):Nat:=if j ≤ d then chs m (d - j) else 0
theorem fillC_nat (m d j:Nat):fillC m d j = (fillN m d j:Rat):=by
 unfold fillC fillN;split
 ·rfl
 ·rfl
def inN (m k:Nat) (w:Nat→Nat) (u j:Nat):Nat:=((List.range m).map fun i=>w i * (chs u j * fillN (k - u) (i + 1) j)).sum
theorem sR_cast' {α:Type} (f:α→Nat):∀ l:List α,(((l.map f).sum:Nat):Rat) = sR (fun x=>(f x:Rat)) l
 | []=>rfl
 | a :: l=>by rw [List.map_cons,List.sum_cons];push_cast;rw [sR_cast' f l];rfl
theorem evI_nat (m k:Nat) (w:Nat→Nat) (D u j:Nat):evI m k (natW w D) u j = (inN m k w u j:Rat) / (D:Rat):=by
 unfold evI inN
 rw [sR_cast',Rat.div_def,Rat.mul_comm,← sR_mul]
 refine sR_congr fun i _=>?_
 unfold natW
 rw [fillC_nat,Rat.div_def];push_cast;grind
theorem evI_fr (m k:Nat) (w:Nat→Nat) (D u j:Nat):FrQ D (evI m k (natW w D) u j):=⟨_,evI_nat m k w D u j⟩
theorem evQ_fr (m k:Nat) (w:Nat→Nat) (D u:Nat):FrQ D (evQ m k (natW w D) u):=by
 rw [evQ_sum];exact FrQ.sum fun j _=>evI_fr m k w D u _
theorem p_ch {m k D:Nat} {w:Nat→Nat} (hD:D ≠ 0) (h1:sR (·.2) (evX m k (natW w D)) = 1):Ch01 D (evI m k (natW w D) k 1):=by
 refine ⟨evI_fr m k w D k 1,?_,hD⟩
 have h2:=ev_lack h1
 have h3:=evQ_nonneg (m:=m) (k:=k) (ω:=natW w D) (fun i _=>natW_nonneg w D i) k
 grind
theorem free_nonneg {m k D:Nat} {w:Nat→Nat} (u:Nat):0 ≤ freeR m k (natW w D) u:=by
 unfold freeR
 split
 ·exact Rat.le_refl
 ·have h1:=(evI_fr m k w D u 2).nonneg
  have h2:=(evQ_fr m k w D u).nonneg
  have inv:∀ x:Rat,0 ≤ x→0 ≤ x⁻¹:=fun x hx=>by
   by_cases e:x = 0
   ·rw [e,Rat.inv_zero];exact Rat.le_refl
   ·exact Rat.le_of_lt (Rat.inv_pos.2 (Rat.lt_of_le_of_ne hx (Ne.symm e)))
  rw [Rat.div_def,Rat.div_def]
  exact Rat.mul_nonneg (Rat.mul_nonneg (Rat.mul_nonneg (by decide) (inv _ (natR_nonneg u))) h1) (inv _ h2)
theorem free_fr {m k D:Nat} {w:Nat→Nat} (hD:D ≠ 0) (h1:sR (·.2) (evX m k (natW w D)) = 1) {u:Nat} (h0:1 ≤ u) (hu:u ≤ k):∃ E,E ≠ 0∧E ≤ u * D∧Ch01 E (freeR m k (natW w D) u):=by
 have hω:∀ i,i < m→0 ≤ natW w D i:=fun i _=>natW_nonneg w D i
 have hle:freeR m k (natW w D) u ≤ 1:=by
  obtain ⟨v,rfl⟩ : ∃ v,u = v + 1:=⟨u - 1,by omega⟩
  by_cases e:evQ m k (natW w D) (v + 1) = 0
  ·unfold freeR;rw [if_pos e];decide
  ·have h2:=free_two (k:=k) hω (u:=v) (by omega)
   have h3:=evQ_nonneg (k:=k) hω v
   have h4:=evQ_nonneg (k:=k) hω (v + 1)
   rcases (Rat.le_total:freeR m k (natW w D) (v + 1) ≤ 1∨_) with h | h
   ·exact h
   ·have h5:0 < evQ m k (natW w D) (v + 1):=Rat.lt_of_le_of_ne h4 (Ne.symm e)
    have h6:0 ≤ evQ m k (natW w D) (v + 1) * (freeR m k (natW w D) (v + 1) - 1):=Rat.mul_nonneg h4 (by grind)
    have h7:evQ m k (natW w D) (v + 1) * (1 - freeR m k (natW w D) (v + 1)) = 0:=by grind
    have h8:1 - freeR m k (natW w D) (v + 1) = 0:=(Rat.mul_eq_zero.1 h7).resolve_left e
    grind
 by_cases e:evQ m k (natW w D) u = 0
 ·refine ⟨1,Nat.one_ne_zero,?_,?_,hle,Nat.one_ne_zero⟩
  ·exact Nat.mul_pos h0 (Nat.pos_of_ne_zero hD)
  ·unfold freeR;rw [if_pos e];exact FrQ.zero 1
 ·obtain ⟨b,hb,hq⟩:=(evQ_fr m k w D u).le hD (evQ_le hω h1 hu)
  obtain ⟨a,ha⟩:=evI_fr m k w D u 2
  have hb0:b ≠ 0:=fun h=>e (by rw [hq,h,show ((0:Nat):Rat) = 0 from rfl];grind)
  have hn:u * b ≠ 0:=Nat.mul_ne_zero (by omega) hb0
  refine ⟨u * b,hn,Nat.mul_le_mul_left u hb,⟨2 * a,?_⟩,hle,hn⟩
  unfold freeR
  rw [if_neg e,hq,ha]
  have z1:=nz hb0
  have z2:=nz hD
  have z3:=nz (show u ≠ 0 by omega)
  push_cast
  grind
theorem den_le {E:Nat} {q:Rat} (h:FrQ E q) (hE:E ≠ 0):q.den ≤ E:=by
 obtain ⟨a,rfl⟩:=h
 have:(a:Rat) / (E:Rat) = mkRat (a:Int) E:=(Rat.mkRat_eq_div _ _).symm
 rw [this,Rat.mkRat_def,dif_neg hE,Rat.normalize_eq]
 exact Nat.div_le_self _ _
theorem free_ch {m k D:Nat} {w:Nat→Nat} (hD:D ≠ 0) (h1:sR (·.2) (evX m k (natW w D)) = 1) {u:Nat} (h0:1 ≤ u) (hu:u ≤ k):Ch01 (freeR m k (natW w D) u).den (freeR m k (natW w D) u)∧(freeR m k (natW w D) u).den ≤ u * D:=by
 obtain ⟨E,hE,hE2,hc⟩:=free_fr hD h1 h0 hu
 exact ⟨⟨FrQ.self _ (free_nonneg u),hc.le,(freeR m k (natW w D) u).den_nz⟩,Nat.le_trans (den_le hc.fr hE) hE2⟩
theorem lvE_le {D n k B:Nat} {F:Nat→Nat} (hF:∀ u,1 ≤ u→u ≤ k→F u ≤ B) (hk:k ≤ B) (hD:D ≤ B) (hB:1 ≤ B):∀ j,j ≤ k→lvE D F n k j ≤ B ^ (n + 2 * n * j)
 | 0,_=>by rw [lvE,Nat.mul_zero,Nat.add_zero];exact Nat.pow_le_pow_left hD n
 | j + 1,h=>by
  rw [lvE]
  have h1:=lvE_le (n:=n) hF hk hD hB j (by omega)
  have h2:F (k - j) ^ n ≤ B ^ n:=Nat.pow_le_pow_left (hF _ (by omega) (by omega)) n
  have h3:(k - j) ^ n ≤ B ^ n:=Nat.pow_le_pow_left (by omega) n
  rw [show n + 2 * n * (j + 1) = n + 2 * n * j + (n + n) by rw [Nat.mul_succ];omega,Nat.pow_add B (n + 2 * n * j),Nat.pow_add B n n]
  exact Nat.mul_le_mul h1 (Nat.mul_le_mul h2 h3)
theorem lvE_pos {D n k:Nat} {F:Nat→Nat} (hD:D ≠ 0) (hF:∀ u,1 ≤ u→u ≤ k→F u ≠ 0):∀ j,j ≤ k→lvE D F n k j ≠ 0
 | 0,_=>Nat.ne_of_gt (Nat.pow_pos (Nat.pos_of_ne_zero hD))
 | j + 1,h=>Nat.mul_ne_zero (lvE_pos hD hF j (by omega)) (Nat.mul_ne_zero (Nat.ne_of_gt (Nat.pow_pos (Nat.pos_of_ne_zero (hF _ (by omega) (by omega))))) (Nat.ne_of_gt (Nat.pow_pos (by omega))))
open Go Go.Proofs Go.RowKit
def natG (W:List (List Int)→Bool) (L:List (List Int × Nat)):Nat→List (List Int)→Nat→Nat
 | 0,b,m=>if W b then m else 0
 | n + 1,b,m=>(L.map fun s=>natG W L n (b ++ [s.1]) (m * s.2)).sum
def digs (m:Nat):Nat→Nat→List Nat
 | 0,_=>[]
 | n + 1,j=>digs m n (j / m) ++ [j % m]
theorem digs_len (m:Nat):∀ n j,(digs m n j).length = n
 | 0,_=>rfl
 | n + 1,j=>by simp [digs,digs_len m n]
theorem digs_lt {m:Nat} (hm:0 < m):∀ n j,∀ x ∈ digs m n j,x < m
 | 0,_,x,h=>nomatch h
 | n + 1,j,x,h=>by
  rcases List.mem_append.1 h with h | h
  ·exact digs_lt hm n _ x h
  ·rw [List.mem_singleton.1 h];exact Nat.mod_lt _ hm
def selS (L:List (List Int × Nat)) (l:List Nat):List (List Int):=l.map fun i=>(L.getD i ([],0)).1
def prdW (L:List (List Int × Nat)) (l:List Nat):Nat:=l.foldl (fun a i=>a * (L.getD i ([],0)).2) 1
def tupN (W:List (List Int)→Bool) (L:List (List Int × Nat)) (l:List Nat):Nat:=if W (selS L l) then prdW L l else 0
def accN (W:List (List Int)→Bool) (L:List (List Int × Nat)) (n j:Nat):Nat:=((List.range j).map fun i=>tupN W L (digs L.length n i)).sum
theorem accN_zero (W:List (List Int)→Bool) (L:List (List Int × Nat)) (n:Nat):accN W L n 0 = 0:=rfl
theorem accN_succ (W:List (List Int)→Bool) (L:List (List Int × Nat)) (n j:Nat):accN W L n (j + 1) = accN W L n j + tupN W L (digs L.length n j):=by
 unfold accN;rw [List.range_succ,List.map_append,List.sum_append];simp
def sumR (m:Nat) (f:List Nat→Nat):Nat→List Nat→Nat
 | 0,b=>f b
 | n + 1,b=>((List.range m).map fun i=>sumR m f n (b ++ [i])).sum
theorem sumR_last (m:Nat) (f:List Nat→Nat):∀ n b,sumR m f (n + 1) b = sumR m (fun l=>((List.range m).map fun i=>f (l ++ [i])).sum) n b
 | 0,b=>rfl
 | n + 1,b=>by
  show ((List.range m).map fun i=>sumR m f (n + 1) (b ++ [i])).sum = ((List.range m).map fun i=>sumR m (fun l=>((List.range m).map fun i=>f (l ++ [i])).sum) n (b ++ [i])).sum
  exact congrArg List.sum (List.map_congr_left fun i _=>sumR_last m f n (b ++ [i]))
theorem sum_mul_range (m:Nat) (h:Nat→Nat):∀ q,((List.range (q * m)).map h).sum = ((List.range q).map fun j=>((List.range m).map fun i=>h (j * m + i)).sum).sum
 | 0=>by simp
 | q + 1=>by
  rw [Nat.succ_mul,List.range_add,List.map_append,List.sum_append,sum_mul_range m h q,List.range_succ,List.map_append,List.sum_append]
  simp [List.map_map,Function.comp_def]
theorem sum_digs {m:Nat} (hm:0 < m):∀ (n:Nat) (f:List Nat→Nat),((List.range (m ^ n)).map fun j=>f (digs m n j)).sum = sumR m f n []
 | 0,f=>by simp [digs,sumR]
 | n + 1,f=>by
  rw [Nat.pow_succ,sum_mul_range,sumR_last,← sum_digs hm n]
  refine congrArg List.sum (List.map_congr_left fun j _=>?_)
  refine congrArg List.sum (List.map_congr_left fun i hi=>?_)
  have hi:=List.mem_range.1 hi
  show f (digs m n ((j * m + i) / m) ++ [(j * m + i) % m]) = _
  rw [Nat.mul_comm j m,Nat.mul_add_div hm,Nat.div_eq_of_lt hi,Nat.add_zero,Nat.mul_add_mod,Nat.mod_eq_of_lt hi]
theorem map_range_getD {α:Type} (L:List α) (z:α) (g:α→Nat):((List.range L.length).map fun i=>g (L.getD i z)) = L.map g:=by
 refine List.ext_getElem (by simp) fun i h1 h2=>?_
 have hl:i < L.length:=by simpa using h2
 simp [List.getD_eq_getElem?_getD,hl]
theorem sumR_natG (W:List (List Int)→Bool) (L:List (List Int × Nat)):∀ n b,sumR L.length (tupN W L) n b = natG W L n (selS L b) (prdW L b)
 | 0,b=>rfl
 | n + 1,b=>by
  show ((List.range L.length).map fun i=>sumR L.length (tupN W L) n (b ++ [i])).sum = (L.map fun s=>natG W L n (selS L b ++ [s.1]) (prdW L b * s.2)).sum
  rw [← map_range_getD L ([],0)]
  refine congrArg List.sum (List.map_congr_left fun i _=>?_)
  rw [sumR_natG W L n (b ++ [i])]
  simp [selS,prdW]
theorem accN_full (W:List (List Int)→Bool) {L:List (List Int × Nat)} (hL:0 < L.length) (n:Nat):accN W L n (L.length ^ n) = natG W L n [] 1:=by
 unfold accN
 rw [sum_digs hL n (tupN W L),sumR_natG];rfl
theorem prdW_le {L:List (List Int × Nat)} {D:Nat} (h:∀ s ∈ L,s.2 ≤ D) (l:List Nat):prdW L l ≤ D ^ l.length:=by
 have key:∀ (l:List Nat) (a:Nat) (q:Nat),a ≤ D ^ q→l.foldl (fun a i=>a * (L.getD i ([],0)).2) a ≤ D ^ (q + l.length):=by
  intro l
  induction l with
  | nil=>intro a q h;exact h
  | cons i r ih=>
   intro a q ha
   rw [List.foldl_cons,List.length_cons,show q + (r.length + 1) = q + 1 + r.length by omega]
   refine ih _ _ ?_
   rw [Nat.pow_succ]
   refine Nat.mul_le_mul ha ?_
   rw [List.getD_eq_getElem?_getD]
   cases hi:L[i]? with
   | none=>exact Nat.zero_le _
   | some s=>exact h s (List.mem_of_getElem? hi)
 have:=key l 1 0 (by simp)
 rwa [Nat.zero_add] at this
theorem tupN_le {W:List (List Int)→Bool} {L:List (List Int × Nat)} {D:Nat} (h:∀ s ∈ L,s.2 ≤ D) (l:List Nat):tupN W L l ≤ D ^ l.length:=by
 unfold tupN;split
 ·exact prdW_le h l
 ·exact Nat.zero_le _
theorem accN_le {W:List (List Int)→Bool} {L:List (List Int × Nat)} {D n:Nat} (h:∀ s ∈ L,s.2 ≤ D):∀ j,accN W L n j ≤ j * D ^ n
 | 0=>by simp [accN_zero]
 | j + 1=>by
  rw [accN_succ,Nat.succ_mul]
  have h1:=accN_le h (W:=W) (n:=n) j
  have h2:=tupN_le (W:=W) h (digs L.length n j)
  rw [digs_len] at h2
  omega
open Go Go.RowKit
theorem wpIn_scope {F:Fence} {n:Nat} {P:Program} {Q:Exit→Act→World→Prop} {a:Act} {w:World} {c:Code} (h:c.wpIn F n P (Exit.noGoto Q) a w):(Code.scope c).wpIn F n P Q a w:=by
 intro b k cs hro hb hr
 have h0:(lone (b.atR a (.code (.scope c) :: k)) cs w).fenced P F:=fenced_calm hb hr rfl
 have s1:step P (lone (b.atR a (.code (.scope c) :: k)) cs w) = .next (lone (b.atR a (.code c :: .inScope c :: k)) cs w):=step_lone_go (by simp [stepG,stepG.exec,Frame.atR])
 have s2:∀ (a:Act) (w:World),step P (lone (b.atR a (.inScope c :: k)) cs w) = .next (lone (b.atR a k) cs w):=fun a w=>step_lone_go (by simp [stepG,stepG.exec,Frame.atR])
 obtain ⟨e,a₁,w₁,hq,harr⟩:=h b (.inScope c :: k) cs hro hb hr
 have hx:∀ id',exitTo id' (.inScope c :: k) = exitTo id' k:=fun id'=>by simp [exitTo]
 cases e with
 | normal=>exact ⟨.normal,a₁,w₁,hq,.head h0 s1 (StepsIn.trans harr (.one (fenced_calm hb hr rfl) (s2 a₁ w₁)))⟩
 | exit id'=>
  exact ⟨.exit id',a₁,w₁,hq,fun k' hk=>.head h0 s1 (harr.1 k' (by rw [hx];exact hk)),
    fun hr' hk=>let ⟨k₁,h1,h2⟩:=harr.2 hr' (by rw [hx];exact hk);⟨k₁,h1,.head h0 s1 h2⟩⟩
 | goto l=>exact hq.elim
 | ret=>exact ⟨_,a₁,w₁,hq,.of_steps (.one h0 s1) harr⟩
 | panic ch=>exact ⟨_,a₁,w₁,hq,.of_steps (.one h0 s1) harr⟩
 | outgrown=>exact ⟨_,a₁,w₁,hq,.of_steps (.one h0 s1) harr⟩
section
variable {P:Program} {E:Env P} {n:Sh} {X:Cx} {s:List K} {fr:Fr} {A:List Ch} {c:Code} {e:Exit}
theorem scp (h:TC E n ⟨Exit.noGoto (den P n.r X.Q s),X.w0,X.A0⟩ [] c fr A):TC E n X s (.scope c) fr A:=
 ⟨fun w hw=>⟨fun a ha=>wpIn_scope ((h.run w ⟨hw.sat,hw.mv⟩).run a ha)⟩⟩
theorem scx (he:∀ Q a w,Exit.noGoto Q e a w = Q e a w) (h:TX E n X s e fr A):TX E n ⟨Exit.noGoto (den P n.r X.Q s),X.w0,X.A0⟩ [] e fr A:=
 ⟨fun w hw=>⟨fun a ha=>(he _ a w).mpr ((h.run w ⟨hw.sat,hw.mv⟩).run a ha)⟩⟩
theorem lbl {l:Nat} (h:TX E n X s .normal fr A):TC E n X s (.label l) fr A:=⟨fun w hw=>⟨fun a ha=>wpIn_label ((h.run w hw).run a ha)⟩⟩
end
end Go.Art
namespace Go.Art
open Go Go.Proofs Go.RowKit
def tupsL (m n:Nat):List (List Int):=(List.range (m ^ n)).map fun j=>(digs m n j).map Int.ofNat
theorem tupsL_len (m n:Nat):(tupsL m n).length = m ^ n:=by simp [tupsL]
theorem tupsL_get {m n j:Nat} (h:j < m ^ n):(tupsL m n).getD j [] = (digs m n j).map Int.ofNat:=by simp [tupsL,List.getD_eq_getElem?_getD,h]
theorem digs_zero (m:Nat):∀ n,digs m n 0 = List.replicate n 0
 | 0=>rfl
 | n + 1=>by
  show digs m n (0 / m) ++ [0 % m] = _
  rw [Nat.zero_div,Nat.zero_mod,digs_zero m n,List.replicate_succ']
theorem digs_mul (m:Nat) (hm:0 < m) (n p:Nat):∀ q,digs m (n + q) (p * m ^ q) = digs m n p ++ List.replicate q 0
 | 0=>by simp
 | q + 1=>by
  show digs m (n + q) (p * m ^ (q + 1) / m) ++ [p * m ^ (q + 1) % m] = _
  rw [Nat.pow_succ,← Nat.mul_assoc,Nat.mul_div_cancel _ hm,Nat.mul_mod_left,digs_mul m hm n p q,List.append_assoc,← List.replicate_succ']
def curD (m n q p:Nat):List Int:=(digs m n p).map Int.ofNat ++ List.replicate q 0
theorem curD_all (m n j:Nat):curD m n 0 j = (digs m n j).map Int.ofNat:=by simp [curD]
theorem curD_len (m n q p:Nat):(curD m n q p).length = n + q:=by simp [curD,digs_len]
theorem curD_last (m n q p:Nat):(curD m (n + 1) q p).getD n 0 = ((p % m:Nat):Int):=by
 show (((digs m n (p / m) ++ [p % m]).map Int.ofNat) ++ List.replicate q 0).getD n 0 = _
 rw [List.getD_eq_getElem?_getD,List.map_append,List.append_assoc,List.getElem?_append_right (by simp [digs_len])]
 simp [digs_len]
theorem curD_set (m n q p:Nat) (x:Int):(curD m (n + 1) q p).set n x = (digs m n (p / m)).map Int.ofNat ++ x :: List.replicate q 0:=by
 show (((digs m n (p / m) ++ [p % m]).map Int.ofNat) ++ List.replicate q 0).set n x = _
 rw [List.map_append,List.append_assoc,List.set_append_right _ _ (by simp [digs_len])]
 simp [digs_len]
theorem curD_carry (m n q p:Nat):((curD m (n + 1) q p).set n (((p % m + 1:Nat)):Int)).set n 0 = curD m n (q + 1) (p / m):=by
 rw [List.set_set,curD_set];unfold curD;rw [List.replicate_succ]
theorem curD_next {m n q p:Nat} (h:p % m + 1 < m):(curD m (n + 1) q p).set n (((p % m + 1:Nat)):Int) = curD m (n + 1 + q) 0 ((p + 1) * m ^ q):=by
 have hm:0 < m:=by omega
 have h1:(p + 1) / m = p / m∧(p + 1) % m = p % m + 1:=by
  have hdm:=Nat.div_add_mod p m
  have e:p + 1 = m * (p / m) + (p % m + 1):=by omega
  rw [e,Nat.mul_add_div hm,Nat.mul_add_mod,Nat.mod_eq_of_lt h,Nat.div_eq_of_lt h]
  exact ⟨by rw [Nat.add_zero],rfl⟩
 rw [curD_set,curD_all,digs_mul m hm (n + 1) (p + 1) q]
 show _ = ((digs m n ((p + 1) / m) ++ [(p + 1) % m]) ++ List.replicate q 0).map Int.ofNat
 rw [h1.1,h1.2]
 simp
theorem digs_wrap {m n p:Nat} (hm:0 < m) (h:p % m + 1 = m):(p / m + 1) * m = p + 1:=by
 have:=Nat.div_add_mod p m
 rw [Nat.add_mul,Nat.mul_comm];omega
theorem next_lt {m n r q p:Nat} (hn:r + 1 + q = n) (hp:p < m ^ (r + 1)) (h:p % m + 1 < m):(p + 1) * m ^ q < m ^ n:=by
 have h1:p + 1 < m ^ (r + 1):=by
  rcases Nat.lt_or_ge (p + 1) (m ^ (r + 1)) with h2 | h2
  ·exact h2
  ·exfalso
   have e:p + 1 = m ^ (r + 1):=by omega
   have e2:(p + 1) % m = 0:=by rw [e,Nat.pow_succ,Nat.mul_mod_left]
   rw [Nat.add_mod,Nat.mod_eq_of_lt (show 1 < m by omega),Nat.mod_eq_of_lt h] at e2
   omega
 rw [← hn,Nat.pow_add]
 exact Nat.mul_lt_mul_of_pos_right h1 (Nat.pow_pos (by omega))
def lbd (C:List Ch):Ch where
 wr:=fun _=>False
 rd:=fun _=>False
 bd:=fun b=>fts C b
 P:=fun w=>∀ c ∈ C,c.P w
 loc:=fun h hb c hc=>c.loc (h c hc) fun b hf=>hb b (.inr (.inr ⟨c,hc,hf⟩))
 lt:=fun h hb=>by
  rcases hb with hb | hb | ⟨c,hc,hf⟩
  ·exact hb.elim
  ·exact hb.elim
  ·exact c.lt (h c hc) hf
instance (C:List Ch):Lent (lbd C):=⟨fun _=>⟨fun h=>h,fun h=>h⟩⟩
theorem has_mem {F:List Ch} {c:Ch} [h:Lent c] (hm:c ∈ F):Has F c:=⟨fun _ hw=>hw.h c hm,fun b=>(h.lent b).1,fun b=>(h.lent b).2,fun _ hb=>⟨c,hm,hb⟩⟩
theorem has_lbd {F C:List Ch} {c:Ch} [hl:Lent c] (h:Has F (lbd C)) (hc:c ∈ C):Has F c:=⟨fun w hw=>h.P w hw c hc,fun b=>(hl.lent b).1,fun b=>(hl.lent b).2,fun b hb=>h.ft b (.inr (.inr ⟨c,hc,hb⟩))⟩
theorem lbd_of {F C:List Ch} (h:∀ c ∈ C,Has F c):Has F (lbd C):=⟨fun w hw c hc=>(h c hc).P w hw,fun _ h=>h,fun _ h=>h,fun b hb=>by
 rcases hb with hb | hb | ⟨c,hc,hf⟩
 ·exact hb.elim
 ·exact hb.elim
 ·exact (h c hc).ft b hf⟩
theorem Ty.pre {P:Program} {l:Nat} {vs:List Value} {pre pre' A:List Ch} {R:Bool→List Ch→Prop} (h:Ty P l vs pre A R) (hp:∀ c ∈ pre,Has pre' c) (hl:∀ c ∈ pre',∀ b,¬ c.wr b∧¬ c.rd b):Ty P l vs pre' A R:=
 ⟨fun w hw=>h.run w (lend (hw.perm List.perm_append_comm) hp),hl⟩
structure SeqV (P:Program) (f:FuncId) (cap:Array Value) (pre:List Ch) (L:List (List Int)):Prop where
 run:∀ {α:Type} (V:Ch) [Lent V] (l:Nat) (J:α→Ch) (pl:α→Nat→Prop) (S:α→Prop) (a0:α),pl a0 0→(∀ a b,¬ (J a).bd b) →
  (∀ a i x,pl a i→i < L.length→Ty P l [x] [vw x (Is (L.getD i [])),V] [J a] fun ok B=>∃ a',B = [J a']∧((ok = true∧pl a' (i + 1))∨(ok = false∧S a'))) →
  Tr P f (yv l :: cap.toList) (V :: pre) [J a0] fun _ B=>∃ a,B = [J a]∧(pl a L.length∨S a)
structure TpG (α:Type) where
 j:Nat
 a:α
structure TqG where
 q:Nat
 p:Nat
attribute [local irreducible] Fit pt own ro vw mpc lpt vels rels mow lrc dfr
attribute [local irreducible] lmp lme mit velg relg bnd owl dfrl
theorem few_tr23 (m n:Nat) (hm:1 ≤ m∧m ≤ 4096) (hn:n ≤ 4096):Tr Tryz.prog 141 [I m,I n] [] [] fun u D=>(∃ b:Bool,u = .bool b∧(b = true ↔ m ^ n ≤ 4096))∧D = []:=by
 have hmono:=fun i (h:i ≤ n)=>Nat.pow_le_pow_right hm.1 h
 refine Tr.enter env _ Tryz.func141 (by kernel_rfl) rfl Tryz.ntmps141 rfl (by repeat (first | exact has00 | refine has01 ?_)) fun w0=>?_
 repeat' first|(refine wo ?_;first|refine oa ?_)|refine sq ?_|refine rg ?_|refine xc ?_|refine nl ?_|refine bk ?_
 refine TC.loop (ι:=Nat) (fun i=>[(7,I i),(5,I ((m ^ i:Nat):Int))]) (fun _=>[]) (fun i=>i ≤ n∧m ^ i ≤ 4096) (fun i=>n - i) 0 [0,1,6] ⟨Nat.zero_le _,by simp⟩ ?_ (hs:=by simp only [Nat.pow_zero];(repeat (refine Sub.cons rfl (by first | rfl | go_num) ?_));exact Sub.nil)
 rintro i ⟨hi,hi2⟩
 by_cases hlt:i < n
 ·have hp:((m ^ i:Nat):Int) * m = ((m ^ (i + 1):Nat):Int):=by rw [Nat.pow_succ];push_cast;rfl
  have hb:m ^ (i + 1) ≤ 4096 * 4096:=by rw [Nat.pow_succ];exact Nat.mul_le_mul hi2 hm.2
  have hge:=hmono (i + 1) hlt
  have h1:m = 1→m ^ n = 1:=fun h=>by rw [h,Nat.one_pow]
  have hlp:∀ q,q = i + 1→m ^ q = m ^ (i + 1):=fun q h=>by rw [h]
  obtain ⟨x,hx⟩ : ∃ x,x = m ^ i:=⟨_,rfl⟩
  obtain ⟨y,hy⟩ : ∃ y,y = m ^ (i + 1):=⟨_,rfl⟩
  obtain ⟨z,hz⟩ : ∃ z,z = m ^ n:=⟨_,rfl⟩
  rw [← hx] at hi2 hp ⊢
  rw [← hy] at hp hb hge
  rw [← hz] at hge h1 ⊢
  clear hlp hmono
  repeat' first|(refine aw (m:=(y:Int)) ?_ (h:=by rw [← hp];rfl))|(refine wo ?_;first|(refine ao ?_;first|refine aw ?_|refine oa ?_)|refine oa ?_)|(refine gc ?_;first|(refine ci (fun hB=>?_) (fun hB=>?_) <;> try (exfalso;omega)))|refine sq ?_|refine rg ?_|refine xc ?_|refine nl ?_|refine sk ?_|refine bk ?_|refine rt ?_|refine xb ?_
  ·exact r1 ⟨⟨false,rfl,by constructor <;> intro h;cases h;omega⟩,rfl⟩
  ·exact r1 ⟨⟨true,rfl,by constructor <;> intro h;have:=h1 (by omega);omega;rfl⟩,rfl⟩
  ·exact lp (i + 1) ⟨hlt,by rw [← hy];omega⟩ (hs:=by rw [← hy];(repeat (refine Sub.cons rfl (by first | rfl | go_num) ?_));exact Sub.nil)
 ·obtain rfl:i = n:=by omega
  repeat' first|(refine wo ?_;first|(refine ao ?_;first|refine oa ?_)|refine oa ?_)|(refine gc ?_;first|(refine ci (fun hB=>?_) (fun hB=>?_) <;> try (exfalso;omega)))|refine sq ?_|refine rg ?_|refine xc ?_|refine nl ?_|refine xe ?_|refine rt ?_
  exact r1 ⟨⟨true,rfl,by constructor <;> intro _;exact hi2;rfl⟩,rfl⟩
theorem tuples_tr (m n:Int):Tr Tryz.prog 143 [I m,I n] [] [] fun u D=>∃ pn pm,u = .func (.func 199) #[] #[ptr pn,ptr pm]∧D = [pt pn [I n] TLI,pt pm [I m] TLI]:=by
 refine Tr.enter env _ Tryz.func143 (by kernel_rfl) rfl Tryz.ntmps143 rfl (by repeat (first | exact has00 | refine has01 ?_)) fun w0=>?_
 repeat' first|refine bx1 fun b=>?_|(refine wo ?_;first|refine oa ?_)|refine sq ?_|refine rg ?_|refine xc ?_|refine nl ?_|refine rt ?_
 exact r1 ⟨_,_,rfl,rfl⟩
theorem tuples1_seq (m n:Nat) (pn pm:Nat) (hm:1 ≤ m) (hb:m ^ n ≤ 4096) (hn:n ≤ 4096) (hm2:m ≤ 4096):SeqV Tryz.prog 199 #[ptr pn,ptr pm] [lpt pn [I n] TLI,lpt pm [I m] TLI] (tupsL m n):=by
 refine ⟨fun {α} V hV l J pl S a0 h0 hnb hy=>?_⟩
 haveI:=hV
 haveI:∀ a,NoB (J a):=fun a=>⟨hnb a⟩
 rw [tupsL_len] at hy ⊢
 have hpos:0 < m ^ n:=Nat.pow_pos hm
 have hz:List.replicate n (0:Int) = curD m n 0 0:=by rw [curD_all,digs_zero];simp
 have hrz:∀ z:Int,z = 0→List.replicate (n:Int).toNat z = curD m n 0 0:=fun z h=>by rw [h,Int.toNat_natCast,hz]
 refine Tr.enter env _ Tryz.func199 (by kernel_rfl) rfl Tryz.ntmps199 rfl (by repeat (first | exact has00 | refine has01 ?_)) fun w0=>?_
 refine scp ?_
 repeat' first|refine lbl ?_|(refine mki (m:=(n:Int)) (fun v=>?_);rw [Int.toNat_natCast,hz])|(refine wo ?_;first|refine oa ?_|refine ldl ?_)|refine sq ?_|refine rg ?_|refine xc ?_|refine nl ?_|refine bk ?_
 refine TC.loop (ι:=TpG α) (fun _=>[]) (fun g=>[own TLI v (Is (curD m n 0 g.j)),J g.a]) (fun g=>g.j < m ^ n∧pl g.a g.j) (fun g=>m ^ n - g.j) ⟨0,a0⟩ [0,1,2,4] ⟨hpos,h0⟩ ?_
 rintro ⟨j,a⟩ ⟨hj,ha⟩
 dsimp only at hj ha ⊢
 have hyj:=fun x=>hy a j x ha hj
 rw [tupsL_get hj,← curD_all] at hyj
 repeat' first|(refine cy (hyj v) ?_ (hp:=has1 hasA (has1 (has_mem memA) has0));rintro ok _ ⟨a2,rfl,⟨rfl,h3⟩ | ⟨rfl,h3⟩⟩)|(refine wo ?_;first|(refine ao ?_;first|refine aw ?_)|refine oa ?_|refine ldl ?_)|(refine gc ?_;first|refine ct ?_|refine cf ?_)|refine sq ?_|refine rg ?_|refine xc ?_|refine nl ?_|refine sk ?_|refine bk ?_|refine xe ?_
 ·refine TC.loop (ι:=TqG) (fun g=>[(5,I ((n:Int) - 1 - (g.q:Int)))]) (fun g=>[own TLI v (Is (curD m (n - g.q) g.q g.p))]) (fun g=>g.q ≤ n∧(g.p + 1) * m ^ g.q = j + 1∧g.p < m ^ (n - g.q)) (fun g=>n - g.q) ⟨0,j⟩ [0,1,2,4] ⟨Nat.zero_le _,by simp,hj⟩ ?_ (hs:=by simp only [Int.natCast_zero,Int.sub_zero];(repeat (refine Sub.cons rfl (by first | rfl | go_num) ?_));exact Sub.nil)
  rintro ⟨q,p⟩ ⟨hq,hp1,hp2⟩
  dsimp only at hq hp1 hp2 ⊢
  clear hyj hy hz hrz
  by_cases hlt:q < n
  ·obtain ⟨r,hr⟩ : ∃ r,n - q = r + 1:=⟨n - q - 1,by omega⟩
   have hnr:r + 1 + q = n:=by omega
   rw [hr] at hp2 ⊢
   rw [show (n:Int) - 1 - (q:Int) = (r:Int) by omega]
   have hl:=curD_last m r q p
   have hcl:=curD_len m (r + 1) q p
   have hml:p % m < m:=Nat.mod_lt _ hm
   obtain ⟨L2,hL2⟩ : ∃ L2,(curD m (r + 1) q p).set r (((p % m + 1:Nat)):Int) = L2:=⟨_,rfl⟩
   have hL2l:L2.length = r + 1 + q:=by rw [← hL2,List.length_set];exact hcl
   have hL2g:L2.getD r 0 = (((p % m + 1:Nat)):Int):=by rw [← hL2,List.getD_eq_getElem?_getD,List.getElem?_set_self (by omega)];rfl
   have hnx:=fun h=>(hL2.symm.trans (curD_next (q:=q) h):L2 = curD m (r + 1 + q) 0 ((p + 1) * m ^ q))
   have hcr:=curD_carry m r q p
   rw [hL2] at hcr
   have hlt2:=fun h=>next_lt (q:=q) hnr hp2 h
   have hwr:=fun h=>digs_wrap (m:=m) (n:=n) (p:=p) hm h
   rw [hp1] at hnx hlt2
   have hpm:(p / m + 1) * m ^ (q + 1) = (p / m + 1) * m * m ^ q:=by rw [Nat.pow_succ,Nat.mul_comm (m ^ q) m,Nat.mul_assoc]
   have hdv:p / m < m ^ r:=Nat.div_lt_of_lt_mul (by rw [Nat.mul_comm,← Nat.pow_succ];exact hp2)
   generalize hC:curD m (r + 1) q p = C at *
   generalize hx:p % m = x at *
   clear hC
   repeat' first|refine lie hl ?_|(refine aw (m:=((x + 1:Nat):Int)) ?_)|(refine soi (l:=C) (j:=r) ?_;rw [hL2])|(refine qli (l:=L2) (j:=r) ?_;rw [hL2g])|(refine soi (l:=L2) (j:=r) ?_;rw [hcr])|refine qldl (cs:=[I m]) ?_|(refine wo ?_;first|(refine ao ?_;first|refine aw ?_|refine oa ?_)|refine oa ?_|refine ixmn ?_)|(refine gc ?_;first|refine ct ?_|(refine ci (fun hB=>?_) (fun hB=>?_) <;> try (exfalso;omega)))|refine sq ?_|refine rg ?_|refine xc ?_|refine nl ?_|refine sk ?_|refine bk ?_|refine xe ?_|refine xb ?_|refine rq ?_|refine nq ?_|(refine wq ?_;first|(refine qao ?_;first|refine qa ?_)|refine qa ?_|refine qixmn ?_)
   ·exact lp ⟨j + 1,a2⟩ ⟨hlt2 (by omega),h3⟩ (hf:=by dsimp only;rw [hnx (by omega),hnr];exact fitA)
   ·have hw2:=hwr (by omega)
    rw [hw2,hp1] at hpm
    exact lp ⟨q + 1,p / m⟩ ⟨hlt,hpm,by dsimp only;rw [show n - (q + 1) = r by omega];exact hdv⟩ (hs:=by dsimp only;rw [show (n:Int) - 1 - ((q + 1:Nat):Int) = (r:Int) - 1 by omega];(repeat (refine Sub.cons rfl (by first | rfl | go_num) ?_));exact Sub.nil) (hf:=by dsimp only;rw [show n - (q + 1) = r by omega];exact fitA)
  ·obtain rfl:q = n:=by omega
   rw [Nat.sub_self,Nat.pow_zero] at hp2
   obtain rfl:p = 0:=by omega
   rw [Nat.zero_add,Nat.one_mul] at hp1
   rw [show (q:Int) - 1 - (q:Int) = -1 by omega]
   repeat' first|(refine wo ?_;first|(refine ao ?_;first|refine oa ?_)|refine oa ?_)|(refine gc ?_;first|refine cf ?_)|refine sq ?_|refine rg ?_|refine xc ?_|refine nl ?_|refine xe ?_|refine rt ?_
   refine scx (X:=⟨_,_,_⟩) (n:=⟨_,_,_⟩) (e:=.ret) (fun _ _ _=>rfl) ?_
   exact r0 ⟨a2,rfl,.inl (by rw [hp1];exact h3)⟩
 ·refine scx (X:=⟨_,_,_⟩) (n:=⟨_,_,_⟩) (e:=.normal) (fun _ _ _=>rfl) ?_
  exact e0 ⟨a2,rfl,.inr h3⟩
end Go.Art
namespace Go.Art
open Go Go.Proofs Go.RowKit
attribute [local irreducible] Fit pt own ro vw mpc lpt vels rels mow lrc dfr
theorem nat_tr (v:Value) (l:List Nat) (h:Nat) (hd:Dg l) (hl:l.length + h ≤ 4398046511104):Tr Tryz.prog 234 [v,I h] [vw v (Us l)] [] fun u D=>u.oneCell' = true∧∃ m,D = [own T64 u (Us m)]∧Dg m∧nv m = 18446744073709551616 ^ h * nv l∧m.length ≤ l.length + h:=by
 by_cases h0:l = []
 ·subst h0
  refine Tr.enter env _ Tryz.func234 (by kernel_rfl) rfl Tryz.ntmps234 rfl (by repeat (first | exact has00 | refine has01 ?_)) fun w0=>?_
  repeat' first|refine ln (xs:=[]) ?_|(refine wo ?_;first|(refine ao ?_;first|refine oa ?_)|refine oa ?_)|(refine gc ?_;first|refine ct ?_)|refine sq ?_|refine rg ?_|refine xc ?_|refine nl ?_|refine rt ?_
  refine TX.im (own_nil T64 _) ?_
  exact r1 ⟨rfl,[],rfl,Dg.nil,by simp [nv],by simp⟩
 ·have hp:0 < l.length:=List.length_pos_iff.2 h0
  refine Tr.enter env _ Tryz.func234 (by kernel_rfl) rfl Tryz.ntmps234 rfl (by repeat (first | exact has00 | refine has01 ?_)) fun w0=>?_
  repeat' first|(refine mku fun o=>?_;rw [Int.toNat_natCast])|(refine apu (l:=List.replicate h 0) (news:=l) (hl:=by rw [List.length_replicate];omega) fun u=>?_;refine TO.one (v:=u) (xs:=Us (List.replicate h 0 ++ l)) fun hu=>?_)|(refine wo ?_;first|(refine ao ?_;first|refine oa ?_)|refine oa ?_|refine lnm ?_)|(refine gc ?_;first|(refine ci (fun hB=>?_) (fun hB=>?_) <;> try (exfalso;omega)))|refine sq ?_|refine rg ?_|refine xc ?_|refine nl ?_|refine sk ?_|refine rt ?_
  exact r1 ⟨hu,_,rfl,(Dg.rep h).app hd,by rw [nv_app,nv_rep,List.length_replicate,Nat.zero_add],by rw [List.length_append,List.length_replicate];omega⟩
def lessN (n a b:Nat):Nat→Nat
 | 0=>n
 | 1=>n - a
 | _=>n - a - b
def lessJ (n a b:Nat) (v:Value):Nat→List Ch
 | 0=>[]
 | i + 1=>[own T64 v (Us (dg (lessN n a b (i + 1))))]
theorem less_tr (n0 lv x1 x2:Value) (N a b:List Nat) (hN:Dg N) (ha:Dg a) (hb:Dg b) (lN:N.length ≤ 1099511627776) (la:a.length ≤ 1099511627776) (lb:b.length ≤ 1099511627776) (h0:n0.oneCell' = true) (hle:nv a + nv b ≤ nv N) :
  Tr Tryz.prog 233 [n0,lv] [vw lv [x1,x2],vw n0 (Us N),vw x1 (Us a),vw x2 (Us b)] [] fun u D=>u.oneCell' = true∧D = [own T64 u (Us (dg (nv N - nv a - nv b)))]:=by
 have s1:=fun v=>NSub_tr v x1 N a hN ha lN la (by omega)
 have l2:(dg (nv N - nv a)).length ≤ 1099511627776:=Nat.le_trans (dg_mono (Nat.sub_le _ _)) (Nat.le_trans (dg_len_le hN) lN)
 have s2:=fun v=>NSub_tr v x2 (dg (nv N - nv a)) b (Dg_dg _) hb l2 lb (by rw [nv_dg];omega)
 simp only [nv_dg] at s2
 have hl2:([x1,x2]:List Value).length = 2:=rfl
 refine Tr.enter env _ Tryz.func233 (by kernel_rfl) rfl Tryz.ntmps233 rfl (by repeat (first | exact has00 | refine has01 ?_)) fun w0=>?_
 repeat' first|(refine ln (xs:=[x1,x2]) ?_;rw [hl2])|(refine wo ?_;first|refine oa ?_)|refine sq ?_|refine rg ?_|refine xc ?_|refine nl ?_|refine bk ?_
 refine TC.loop (ι:=Nat × Value) (fun k=>[(9,I k.1),(0,k.2)]) (fun k=>lessJ (nv N) (nv a) (nv b) k.2 k.1) (fun k=>k.1 ≤ 2∧(k.1 = 0→k.2 = n0)∧k.2.oneCell' = true) (fun k=>2 - k.1) (0,n0) [7,8] ⟨Nat.zero_le _,fun _=>rfl,h0⟩ ?_
 rintro ⟨i,v⟩ ⟨h1,h2,h3⟩
 dsimp only at h1 h2 h3 ⊢
 have hi:i = 0∨i = 1∨i = 2:=by omega
 rcases hi with rfl | rfl | rfl
 ·obtain rfl:=h2 rfl
  refine TC.im (B:=[vw lv [x1,x2],vw v (Us N),vw x1 (Us a),vw x2 (Us b)]) (Im.refl _) ?_
  repeat' first|(refine gca ?_;first|(refine ca (s1 v) ?_;rintro _ _ ⟨u,rfl,hu,rfl⟩))|refine ixn (i:=0) (xs:=[x1,x2]) (hb:=by decide) ?_|refine le (j:=0) (xs:=[x1,x2]) (u:=x1) ?_|(refine wo ?_;first|(refine ao ?_;first|refine aw ?_|refine oa ?_)|refine oa ?_|refine ixn ?_)|(refine gc ?_;first|refine ct ?_)|refine sq ?_|refine rg ?_|refine xc ?_|refine nl ?_|refine sk ?_|refine bk ?_|refine xb ?_
  exact lp (1,u) ⟨Nat.le_succ 1,fun h=>absurd h (Nat.succ_ne_zero 0),hu⟩
 ·refine TC.im (B:=[own T64 v (Us (dg (nv N - nv a))),vw lv [x1,x2],vw n0 (Us N),vw x1 (Us a),vw x2 (Us b)]) (Im.refl _) ?_
  repeat' first|(refine gca ?_;first|(refine ca (s2 v) ?_;rintro _ _ ⟨u,rfl,hu,rfl⟩))|refine ixn (i:=1) (xs:=[x1,x2]) (hb:=by decide) ?_|refine le (j:=1) (xs:=[x1,x2]) (u:=x2) ?_|(refine wo ?_;first|(refine ao ?_;first|refine aw ?_|refine oa ?_)|refine oa ?_|refine ixn ?_)|(refine gc ?_;first|refine ct ?_)|refine sq ?_|refine rg ?_|refine xc ?_|refine nl ?_|refine sk ?_|refine bk ?_|refine xb ?_
  exact lp (2,u) ⟨Nat.le_refl 2,fun h=>absurd h (Nat.succ_ne_zero 1),hu⟩
 ·refine TC.im (B:=[own T64 v (Us (dg (nv N - nv a - nv b))),vw lv [x1,x2],vw n0 (Us N),vw x1 (Us a),vw x2 (Us b)]) (Im.refl _) ?_
  repeat' first|(refine wo ?_;first|(refine ao ?_;first|refine oa ?_)|refine oa ?_)|(refine gc ?_;first|refine cf ?_)|refine sq ?_|refine rg ?_|refine xc ?_|refine nl ?_|refine xe ?_|refine rt ?_
  exact r1 ⟨h3,rfl⟩
end Go.Art
namespace Go.Art
open Go Go.Proofs Go.RowKit
section
variable {P:Program} {E:Env P} {n:Sh} {X:Cx} {s:List K} {fr:Fr} {A A':List Ch} {ops:Array Oper} {rest:List Oper} {d:Nat} {ty t t' el:TypeId} {pos:String} {after:Array Edge} {x y:Operand} {p q hi lo:Int} {v z:Value} {k1:IntKind} {by_:Nat} {xs:List Value} {α:Type} {g:α→Value} {l:List α}
theorem qmnn (k:TQ E n X s ops rest ((d,I (min p q)) :: fr) A) (hx:ev fr x = some (I p):=by rfl) (hy:ev fr y = some (I q):=by rfl) (hd:Nat.blt d n.n = true:=by rfl):TQ E n X s ops (⟨some d,.call ⟨.builtin .min,#[x,y],#[t,t']⟩,ty,pos,after,none⟩ :: rest) fr A:=TQ.val (fun w _=>⟨fun a ha _ _ _ _=>by
 have e:(if q < p then q else p) = min p q:=by split <;> omega
 simp only [execOp,resolve]
 simp [ha.ev hx,ha.ev hy,invoke,builtin,Builtin.min_,Builtin.min2,← e]⟩) k hd
theorem qslh (k:TQ E n X s ops rest ((d,slSub v 0 hi.toNat) :: fr) A) (hx:ev fr x = some v:=by rfl) (hl:ev fr y = some (.int k1 hi):=by rfl) (hs:Has A (vw v (l.map g)):=by exact hasA) (hb:0 ≤ hi∧hi ≤ l.length:=by omega)
  (ht:lk E.und t = some (.slice el):=by rfl) (he:lk E.inf el = some (z,1,by_):=by rfl) (hd:Nat.blt d n.n = true:=by rfl):TQ E n X s ops (⟨some d,.slice t x none (some y) none,ty,pos,after,none⟩ :: rest) fr A:=
 TQ.val (fun _ h=>R_sliceHi ht he hx hl (has_sl h hs) (by simpa using hb)) k hd
theorem qsll (k:TQ E n X s ops rest ((d,slSub v lo.toNat l.length) :: fr) A) (hx:ev fr x = some v:=by rfl) (hl:ev fr y = some (.int k1 lo):=by rfl) (hs:Has A (vw v (l.map g)):=by exact hasA) (hb:0 ≤ lo∧lo ≤ l.length:=by omega)
  (ht:lk E.und t = some (.slice el):=by rfl) (he:lk E.inf el = some (z,1,by_):=by rfl) (hd:Nat.blt d n.n = true:=by rfl):TQ E n X s ops (⟨some d,.slice t x (some y) none none,ty,pos,after,none⟩ :: rest) fr A:=
 TQ.val (fun _ h=>by have:=R_sliceLo (n:=n) (ty:=ty) ht he hx hl (has_sl h hs) (by simpa using hb);rwa [List.length_map] at this) k hd
end
attribute [local irreducible] Fit pt own ro vw mpc lpt vels rels mow lrc dfr
theorem cut_tr (v:Value) (l:List Nat) (h c:Nat):Tr Tryz.prog 232 [v,ptr c] [vw v (Us l),lpt c [I h] TRi] [] fun u D=>u = tup2 (slSub v 0 (min h l.length)) (slSub v (min h l.length) l.length)∧D = []:=by
 have hm:(min (h:Int) l.length).toNat = min h l.length:=by omega
 rw [← hm]
 refine Tr.enter env _ Tryz.func232 (by kernel_rfl) rfl Tryz.ntmps232 rfl (by repeat (first | exact has00 | refine has01 ?_)) fun w0=>?_
 repeat' first|refine qmnn ?_|refine qslh (g:=Un) ?_|refine qsll (g:=Un) ?_|(refine wo ?_;first|refine oa ?_)|refine sq ?_|refine rg ?_|refine xc ?_|refine nl ?_|refine rt ?_|refine rq ?_|refine nq ?_|(refine wq ?_;first|refine qa ?_|refine qldl ?_|refine qlnm ?_)
 exact r2 ⟨rfl,rfl⟩
end Go.Art
namespace Go.Art
open Go Go.Proofs Go.RowKit
abbrev TMul:TypeId:=91
abbrev halF (c5 c7:Nat):Value:=.func (.func 231) #[] #[ptr c5,ptr c7]
theorem kara {a0 a1 b0 b1 p:Nat}:a0 * b0 + p * ((a0 + a1) * (b0 + b1) - a0 * b0 - a1 * b1) + p * p * (a1 * b1) = (a0 + p * a1) * (b0 + p * b1):=by
 have h:(a0 + a1) * (b0 + b1) - a0 * b0 - a1 * b1 = a0 * b1 + a1 * b0:=by
  rw [Nat.add_mul,Nat.mul_add,Nat.mul_add];omega
 rw [h];grind
theorem dg_mul_len {a b i j:Nat} (ha:(dg a).length ≤ i) (hb:(dg b).length ≤ j):(dg (a * b)).length ≤ i + j:=(dg_len _ _).2 (by
 rw [Nat.pow_add];exact Nat.mul_lt_mul'' ((dg_len _ _).1 ha) ((dg_len _ _).1 hb))
theorem dg_add_len {a b i:Nat} (ha:(dg a).length ≤ i) (hb:(dg b).length ≤ i):(dg (a + b)).length ≤ i + 1:=(dg_len _ _).2 (by
 have h1:=(dg_len _ _).1 ha
 have h2:=(dg_len _ _).1 hb
 rw [Nat.pow_succ];omega)
attribute [local irreducible] Fit pt own ro vw mpc lpt vels rels mow lrc dfr
set_option maxHeartbeats 2000000 in
theorem hal1_tr (c5 c7:Nat) (least:Int) (M:Nat):∀ (va vb:Value) (a b:List Nat),Dg a→Dg b→a.length ≤ 68719476736→b.length ≤ 68719476736→max (dg (nv a)).length (dg (nv b)).length ≤ M →
  Tr Tryz.prog 231 [va,vb,ptr c5,ptr c7] [vw va (Us a),vw vb (Us b),lpt c5 [I least] TRi,lpt c7 [halF c5 c7] TMul] [] fun u D=>u.oneCell' = true∧D = [own T64 u (Us (dg (nv a * nv b)))]:=by
 induction M using Nat.strongRecOn with
 | _ M ih=>
  intro va vb a b ha hb hla hlb hM
  have hal:=dg_len_le ha
  have hbl:=dg_len_le hb
  have hTa:=Trim_tr va a ha (by omega)
  have hTb:=Trim_tr vb b hb (by omega)
  obtain ⟨na,hna⟩ : ∃ na,na = nv a:=⟨_,rfl⟩
  obtain ⟨nb,hnb⟩ : ∃ nb,nb = nv b:=⟨_,rfl⟩
  rw [← hna] at hal hM hTa ⊢
  rw [← hnb] at hbl hM hTb ⊢
  obtain ⟨x,hx⟩ : ∃ x,x = dg na:=⟨_,rfl⟩
  obtain ⟨y,hy⟩ : ∃ y,y = dg nb:=⟨_,rfl⟩
  have hxn:nv x = na:=by rw [hx,nv_dg]
  have hyn:nv y = nb:=by rw [hy,nv_dg]
  have hxd:Dg x:=by rw [hx];exact Dg_dg _
  have hyd:Dg y:=by rw [hy];exact Dg_dg _
  rw [← hx] at hal hM hTa
  rw [← hy] at hbl hM hTb
  have hSc:=fun u1 u2=>School_tr u1 u2 x y hxd hyd (by omega) (by omega)
  rw [hxn,hyn] at hSc
  clear hx hy hna hnb
  refine Tr.enter env _ Tryz.func231 (by kernel_rfl) rfl Tryz.ntmps231 rfl (by repeat (first | exact has00 | refine has01 ?_)) fun w0=>?_
  by_cases hs:min (x.length:Int) y.length < max least 4
  ·repeat' first|(refine gca ?_;first|(refine ca hTa ?_;rintro u1 _ ⟨hu1,rfl⟩)|(refine ca hTb ?_;rintro u2 _ ⟨hu2,rfl⟩)|(refine ca (hSc u1 u2) ?_;rintro u _ ⟨hu,rfl⟩))|refine mnn ?_|refine mxx ?_|(refine wo ?_;first|(refine ao ?_;first|refine oa ?_)|refine oa ?_|refine ldl ?_|refine lnm ?_)|(refine gc ?_;first|(refine ci (fun hB=>?_) (fun hB=>?_) <;> try (exfalso;omega)))|refine sq ?_|refine rg ?_|refine xc ?_|refine nl ?_|refine rt ?_
   exact r1 ⟨hu,rfl⟩
  ·obtain ⟨h,hh⟩ : ∃ h:Nat,(max (x.length:Int) y.length + 1) / 2 = h:=⟨((max (x.length:Int) y.length + 1) / 2).toNat,by omega⟩
   obtain ⟨k1,hk1e⟩ : ∃ k1,k1 = min h x.length:=⟨_,rfl⟩
   obtain ⟨k2,hk2e⟩ : ∃ k2,k2 = min h y.length:=⟨_,rfl⟩
   have hc1:=fun u1 c=>cut_tr u1 x h c
   have hc2:=fun u2 c=>cut_tr u2 y h c
   simp only [← hk1e] at hc1
   simp only [← hk2e] at hc2
   have hk1:k1 ≤ x.length:=by omega
   have hk2:k2 ≤ y.length:=by omega
   have hb4:4 ≤ x.length∧4 ≤ y.length:=by omega
   have hhM:h + 1 < M∧h ≤ 68719476736:=by omega
   have t1l:(x.take k1).length ≤ h:=by rw [List.length_take];omega
   have t2l:(y.take k2).length ≤ h:=by rw [List.length_take];omega
   have d1l:(x.drop k1).length ≤ h:=by rw [List.length_drop];omega
   have d2l:(y.drop k2).length ≤ h:=by rw [List.length_drop];omega
   have e0:=Nat.le_trans (dg_len_le (hxd.take k1)) t1l
   have e1:=Nat.le_trans (dg_len_le (hxd.drop k1)) d1l
   have e2:=Nat.le_trans (dg_len_le (hyd.take k2)) t2l
   have e3:=Nat.le_trans (dg_len_le (hyd.drop k2)) d2l
   have cx:nv x = nv (x.take k1) + 18446744073709551616 ^ h * nv (x.drop k1):=by
    rcases Nat.lt_or_ge x.length h with h0 | h0
    ·rw [List.take_of_length_le (by omega),List.drop_eq_nil_of_le (by omega)];simp [nv]
    ·rw [show k1 = h by omega];exact nv_cut x h
   have cy:nv y = nv (y.take k2) + 18446744073709551616 ^ h * nv (y.drop k2):=by
    rcases Nat.lt_or_ge y.length h with h0 | h0
    ·rw [List.take_of_length_le (by omega),List.drop_eq_nil_of_le (by omega)];simp [nv]
    ·rw [show k2 = h by omega];exact nv_cut y h
   have ihL:=fun u1 u2=>ih h (by omega) (slSub u1 0 k1) (slSub u2 0 k2) (x.take k1) (y.take k2) (hxd.take _) (hyd.take _) (by omega) (by omega) (by omega)
   have ihH:=fun u1 u2=>ih h (by omega) (slSub u1 k1 x.length) (slSub u2 k2 y.length) (x.drop k1) (y.drop k2) (hxd.drop _) (hyd.drop _) (by omega) (by omega) (by omega)
   have adA:=fun u1=>NAdd_tr (slSub u1 0 k1) (slSub u1 k1 x.length) (x.take k1) (x.drop k1) (hxd.take _) (hxd.drop _) (by omega) (by omega)
   have adB:=fun u2=>NAdd_tr (slSub u2 0 k2) (slSub u2 k2 y.length) (y.take k2) (y.drop k2) (hyd.take _) (hyd.drop _) (by omega) (by omega)
   obtain ⟨a0,ha0⟩ : ∃ a0,a0 = nv (x.take k1):=⟨_,rfl⟩
   obtain ⟨a1,ha1⟩ : ∃ a1,a1 = nv (x.drop k1):=⟨_,rfl⟩
   obtain ⟨b0,hb0⟩ : ∃ b0,b0 = nv (y.take k2):=⟨_,rfl⟩
   obtain ⟨b1,hb1⟩ : ∃ b1,b1 = nv (y.drop k2):=⟨_,rfl⟩
   simp only [← ha0,← ha1,← hb0,← hb1] at ihL ihH adA adB cx cy e0 e1 e2 e3
   have sA:=dg_add_len e0 e1
   have sB:=dg_add_len e2 e3
   have ihM:=fun sa sb=>ih (h + 1) (by omega) sa sb (dg (a0 + a1)) (dg (b0 + b1)) (Dg_dg _) (Dg_dg _) (by omega) (by omega) (by rw [nv_dg,nv_dg];omega)
   simp only [nv_dg] at ihM
   have lL:=dg_mul_len e0 e2
   have lH:=dg_mul_len e1 e3
   have lP:=dg_mul_len sA sB
   have hle:a0 * b0 + a1 * b1 ≤ (a0 + a1) * (b0 + b1):=by rw [Nat.add_mul,Nat.mul_add,Nat.mul_add];omega
   have hK:=kara (a0:=a0) (a1:=a1) (b0:=b0) (b1:=b1) (p:=18446744073709551616 ^ h)
   rw [← cx,← cy,hxn,hyn] at hK
   obtain ⟨L,hL⟩ : ∃ L,L = a0 * b0:=⟨_,rfl⟩
   obtain ⟨H,hH⟩ : ∃ H,H = a1 * b1:=⟨_,rfl⟩
   obtain ⟨Q,hQ⟩ : ∃ Q,Q = (a0 + a1) * (b0 + b1):=⟨_,rfl⟩
   simp only [← hL,← hH,← hQ] at ihL ihH ihM lL lH lP hle hK
   have lsM:=fun ml lv lw hg hml=>less_tr ml lv lw hg (dg Q) (dg L) (dg H) (Dg_dg _) (Dg_dg _) (Dg_dg _) (by omega) (by omega) (by omega) hml (by rw [nv_dg,nv_dg,nv_dg];exact hle)
   simp only [nv_dg] at lsM
   have lM:(dg (Q - L - H)).length ≤ h + 1 + (h + 1):=Nat.le_trans (dg_mono (Nat.le_trans (Nat.sub_le _ _) (Nat.sub_le _ _))) lP
   obtain ⟨Md,hMd⟩ : ∃ Md,Md = Q - L - H:=⟨_,rfl⟩
   simp only [← hMd] at lsM lM hK
   have atM:=fun md=>nat_tr md (dg Md) h (Dg_dg _) (by omega)
   have atH:=fun hg=>nat_tr hg (dg H) (2 * h) (Dg_dg _) (by omega)
   simp only [nv_dg] at atM atH
   have lsum:∀ m1:List Nat,nv m1 = 18446744073709551616 ^ h * Md→(dg (nv (dg L) + nv m1)).length ≤ 1099511627776:=fun m1 hm1=>by
    refine Nat.le_trans (dg_add_len (i:=3 * h + 3) (by rw [nv_dg];omega) ?_) (by omega)
    rw [hm1]
    refine Nat.le_trans (dg_mul_len (i:=h + 1) (j:=h + 1 + (h + 1)) ((dg_len _ _).2 (Nat.pow_lt_pow_right (by decide) (by omega))) lM) (by omega)
   have hfin:∀ m1 m3:List Nat,nv m1 = 18446744073709551616 ^ h * Md→nv m3 = 18446744073709551616 ^ (2 * h) * H→nv (dg (nv (dg L) + nv m1)) + nv m3 = na * nb:=fun m1 m3 g1 g3=>by
    rw [nv_dg,nv_dg,g1,g3,← hK,Nat.two_mul,Nat.pow_add]
   clear hK hle hMd hQ hH hL cx cy ha0 ha1 hb0 hb1 ih sA sB e0 e1 e2 e3 hxn hyn t1l t2l d1l d2l hal hbl hk1e hk2e
   repeat' first|(refine gca ?_;first|(refine ca hTa ?_;rintro u1 _ ⟨hu1,rfl⟩)|(refine ca hTb ?_;rintro u2 _ ⟨hu2,rfl⟩))|refine mnn ?_|refine mxx ?_|(refine adiv ?_;rw [hh])|(refine al fun c=>?_)|(refine cav (cap:=#[ptr c]) (vs:=[u1]) (hc1 u1 c) ?_;rintro _ _ ⟨rfl,rfl⟩)|(refine cav (cap:=#[ptr c]) (vs:=[u2]) (hc2 u2 c) ?_;rintro _ _ ⟨rfl,rfl⟩)|refine rs (id:=8) (fun w=>w.heap[c7]? = some (.cells [halF c5 c7].toArray TMul (0,0))) ?_ (fun w hw=>lpt_at memA hw)|(refine wo ?_;first|(refine ao ?_;first|refine aw ?_|refine oa ?_)|refine oa ?_|refine ldl ?_|refine lnm ?_|refine sr ?_)|(refine gc ?_;first|(refine ci (fun hB=>?_) (fun hB=>?_) <;> try (exfalso;omega)))|refine sq ?_|refine rg ?_|refine xc ?_|refine nl ?_|refine sk ?_
   refine tkl 0 (cs:=[halF c5 c7]) (fun w h=>h) ?_
   refine tka 1 ?_
   refine tka 2 ?_
   refine tkl 4 (cs:=[halF c5 c7]) (fun w h=>h) ?_
   refine tka 5 ?_
   refine tka 6 ?_
   refine t1 3 ?_
   refine cav (cap:=#[ptr c5,ptr c7]) (vs:=[slSub u1 0 k1,slSub u2 0 k2]) (ihL u1 u2) ?_ (hp:=has1 (has_take (has_own memA) hk1) (has1 (has_take (has_own memA) hk2) (has1 (has_lpt memA) (has1 (has_lpt memA) has0))))
   rintro lw _ ⟨hlw,rfl⟩
   refine nl ?_
   refine te (fun w hw=>lpt_at memA hw) ?_
   refine t1 7 ?_
   refine cav (cap:=#[ptr c5,ptr c7]) (vs:=[slSub u1 k1 x.length,slSub u2 k2 y.length]) (ihH u1 u2) ?_ (hp:=has1 (has_drop (has_own memA) hk1) (has1 (has_drop (has_own memA) hk2) (has1 (has_lpt memA) (has1 (has_lpt memA) has0))))
   rintro hg _ ⟨hhg,rfl⟩
   refine nl ?_
   refine te (fun w hw=>lpt_at memA hw) ?_
   refine tka 8 ?_
   refine tka 9 ?_
   refine t0 ?_
   refine xc ?_
   repeat' first|refine sq_cutX (a:=.region 9 _ _) (ι:=Value) (fun md=>md.oneCell' = true) (fun md=>[(7,ptr c),(13,lw),(14,hg),(15,md)]) (fun md=>[own T64 md (Us (dg Md)),own T64 hg (Us (dg H)),own T64 lw (Us (dg L)),pt c [I h] TRi]) ?_ (fun kb=>?_)|(refine wo ?_;first|(refine ao ?_;first|refine aw ?_|refine aw6 ?_|refine oa ?_|refine adiv ?_|refine amod ?_|refine shr1 ?_|refine shr ?_|refine umod ?_|refine isl ?_|refine ipe ?_|refine ipn ?_|refine ibe ?_)|refine acw ?_|refine ucv ?_|refine anw ?_|refine oa ?_|refine ld ?_|refine ldl ?_|refine lnm ?_|refine ixmn ?_|refine ixm ?_|refine li ?_|refine lb ?_|refine lv ?_|refine ln ?_|refine ixn ?_|refine ix ?_|refine le ?_|refine sr ?_|refine soi ?_|refine sob ?_|refine scm ?_|refine sclm ?_|refine schm ?_|refine gy ?_|refine gn ?_|refine gnn ?_|refine gu ?_|(refine gsi (fun hB=>?_) (fun hB=>?_) <;> try (exfalso;omega))|(refine gsn (fun hB=>?_) (fun hB=>?_) <;> try (exfalso;omega))|(refine gs (fun hB=>?_) (fun hB=>?_) <;> try (exfalso;omega)))|(refine gc ?_;first|refine ct ?_|refine cf ?_|(refine ci (fun hB=>?_) (fun hB=>?_) <;> try (exfalso;omega))|(refine cn (fun hB=>?_) (fun hB=>?_) <;> try (exfalso;omega))|(refine cb (fun hB=>?_) (fun hB=>?_) <;> try (exfalso;omega)))|refine sq ?_|refine rg ?_|refine xc ?_|refine nl ?_|refine sk ?_|refine bk ?_|refine xe ?_|refine rt ?_|refine xb ?_
   ·intro md hmd
    repeat' first|refine rs (id:=10) (fun w=>w.heap[c]? = some (.cells [I h].toArray TRi (0,0))) ?_ (fun w hw=>pt_at memA hw)|refine sq ?_
    refine tka 0 ?_
    refine tka 1 ?_
    refine tkl 2 (cs:=[I h]) (fun w h=>h) ?_
    refine tka 5 ?_
    refine tkl 6 (cs:=[I h]) (fun w h=>h) ?_
    refine tkw 7 (((2 * h:Nat)):Int) ?_
    refine t1 3 ?_
    refine ca (atM md) ?_
    rintro z1 _ ⟨hz1,m1,rfl,dm1,nm1,lm1⟩
    refine nl ?_
    refine te (fun w hw=>pt_at memA hw) ?_
    refine t1 4 ?_
    refine ca (NAdd_tr lw z1 (dg L) m1 (Dg_dg _) dm1 (by omega) (by omega)) ?_
    rintro z2 _ ⟨hz2,rfl⟩
    refine nl ?_
    refine te (fun w hw=>pt_at memA hw) ?_
    refine t1 8 ?_
    refine ca (atH hg) ?_
    rintro z3 _ ⟨hz3,m3,rfl,dm3,nm3,lm3⟩
    refine nl ?_
    refine te (fun w hw=>pt_at memA hw) ?_
    refine t1 9 ?_
    refine ca (NAdd_tr z2 z3 (dg (nv (dg L) + nv m1)) m3 (Dg_dg _) dm3 (lsum m1 nm1) (by omega)) ?_
    rintro z4 _ ⟨hz4,rfl⟩
    refine nl ?_
    refine te (fun w hw=>pt_at memA hw) ?_
    refine tka 10 ?_
    refine t0 ?_
    skip
    rw [hfin m1 m3 nm1 nm3]
    repeat' first|refine xc ?_|refine rt ?_
    exact r1 ⟨hz4,rfl⟩
   ·repeat' first|refine rs (id:=9) (fun w=>w.heap[c7]? = some (.cells [halF c5 c7].toArray TMul (0,0))) ?_ (fun w hw=>lpt_at memA hw)|(refine wo ?_;first|(refine ao ?_;first|refine aw ?_|refine aw6 ?_|refine oa ?_|refine adiv ?_|refine amod ?_|refine shr1 ?_|refine shr ?_|refine umod ?_|refine isl ?_|refine ipe ?_|refine ipn ?_|refine ibe ?_)|refine acw ?_|refine ucv ?_|refine anw ?_|refine oa ?_|refine ld ?_|refine ldl ?_|refine lnm ?_|refine ixmn ?_|refine ixm ?_|refine li ?_|refine lb ?_|refine lv ?_|refine ln ?_|refine ixn ?_|refine ix ?_|refine le ?_|refine sr ?_|refine soi ?_|refine sob ?_|refine scm ?_|refine sclm ?_|refine schm ?_|refine gy ?_|refine gn ?_|refine gnn ?_|refine gu ?_|(refine gsi (fun hB=>?_) (fun hB=>?_) <;> try (exfalso;omega))|(refine gsn (fun hB=>?_) (fun hB=>?_) <;> try (exfalso;omega))|(refine gs (fun hB=>?_) (fun hB=>?_) <;> try (exfalso;omega)))|(refine gc ?_;first|refine ct ?_|refine cf ?_|(refine ci (fun hB=>?_) (fun hB=>?_) <;> try (exfalso;omega))|(refine cn (fun hB=>?_) (fun hB=>?_) <;> try (exfalso;omega))|(refine cb (fun hB=>?_) (fun hB=>?_) <;> try (exfalso;omega)))|refine sq ?_|refine rg ?_|refine xc ?_|refine nl ?_|refine sk ?_|refine bk ?_|refine xe ?_|refine rt ?_|refine xb ?_
    refine tkl 0 (cs:=[halF c5 c7]) (fun w h=>h) ?_
    refine tka 1 ?_
    refine tka 2 ?_
    refine tka 4 ?_
    refine tka 5 ?_
    refine tka 8 ?_
    refine tka 9 ?_
    refine t2 3 10 ?_ ?_
    ·refine ca (adA u1) ?_ (hp:=has1 (has_take (has_own memA) hk1) (has1 (has_drop (has_own memA) hk1) has0))
     rintro sa _ ⟨hsa,rfl⟩
     refine nl ?_
     refine te (fun w hw=>lpt_at memA hw) ?_
     refine t2 6 10 ?_ ?_
     ·refine ca (adB u2) ?_ (hp:=has1 (has_take (has_own memA) hk2) (has1 (has_drop (has_own memA) hk2) has0))
      rintro sb _ ⟨hsb,rfl⟩
      refine nl ?_
      refine te (fun w hw=>lpt_at memA hw) ?_
      refine t2 7 10 ?_ ?_
      ·refine cav (cap:=#[ptr c5,ptr c7]) (vs:=[sa,sb]) (ihM sa sb) ?_
       rintro ml _ ⟨hml,rfl⟩
       refine nl ?_
       refine te (fun w hw=>lpt_at memA hw) ?_
       refine t1 10 ?_
       refine sli (vs:=[lw,hg]) (fun lv=>?_) (h1:=one_cons hlw (one_cons hhg one_nil))
       refine nl ?_
       refine te (fun w hw=>lpt_at memA hw) ?_
       refine t1 11 ?_
       refine ca (lsM ml lv lw hg hml) ?_
       rintro md _ ⟨hmd,rfl⟩
       refine nl ?_
       refine te (fun w hw=>lpt_at memA hw) ?_
       refine tka 12 ?_
       refine t0 ?_
       refine xc ?_
       exact kb md hmd _ _ (by (repeat (refine Sub.cons rfl (by first | rfl | go_num) ?_));exact Sub.nil) fitA
      ·refine sli (vs:=[lw,hg]) (fun lv=>?_) (h1:=one_cons hlw (one_cons hhg one_nil))
       refine nl ?_
       refine te (fun w hw=>lpt_at memA hw) ?_
       refine t1 7 ?_
       refine cav (cap:=#[ptr c5,ptr c7]) (vs:=[sa,sb]) (ihM sa sb) ?_
       rintro ml _ ⟨hml,rfl⟩
       refine nl ?_
       refine te (fun w hw=>lpt_at memA hw) ?_
       refine t1 11 ?_
       refine ca (lsM ml lv lw hg hml) ?_
       rintro md _ ⟨hmd,rfl⟩
       refine nl ?_
       refine te (fun w hw=>lpt_at memA hw) ?_
       refine tka 12 ?_
       refine t0 ?_
       refine xc ?_
       exact kb md hmd _ _ (by (repeat (refine Sub.cons rfl (by first | rfl | go_num) ?_));exact Sub.nil) fitA
     ·refine sli (vs:=[lw,hg]) (fun lv=>?_) (h1:=one_cons hlw (one_cons hhg one_nil))
      refine nl ?_
      refine te (fun w hw=>lpt_at memA hw) ?_
      refine t1 6 ?_
      refine ca (adB u2) ?_ (hp:=has1 (has_take (has_own memA) hk2) (has1 (has_drop (has_own memA) hk2) has0))
      rintro sb _ ⟨hsb,rfl⟩
      refine nl ?_
      refine te (fun w hw=>lpt_at memA hw) ?_
      refine t1 7 ?_
      refine cav (cap:=#[ptr c5,ptr c7]) (vs:=[sa,sb]) (ihM sa sb) ?_
      rintro ml _ ⟨hml,rfl⟩
      refine nl ?_
      refine te (fun w hw=>lpt_at memA hw) ?_
      refine t1 11 ?_
      refine ca (lsM ml lv lw hg hml) ?_
      rintro md _ ⟨hmd,rfl⟩
      refine nl ?_
      refine te (fun w hw=>lpt_at memA hw) ?_
      refine tka 12 ?_
      refine t0 ?_
      refine xc ?_
      exact kb md hmd _ _ (by (repeat (refine Sub.cons rfl (by first | rfl | go_num) ?_));exact Sub.nil) fitA
    ·refine sli (vs:=[lw,hg]) (fun lv=>?_) (h1:=one_cons hlw (one_cons hhg one_nil))
     refine nl ?_
     refine te (fun w hw=>lpt_at memA hw) ?_
     refine t1 3 ?_
     refine ca (adA u1) ?_ (hp:=has1 (has_take (has_own memA) hk1) (has1 (has_drop (has_own memA) hk1) has0))
     rintro sa _ ⟨hsa,rfl⟩
     refine nl ?_
     refine te (fun w hw=>lpt_at memA hw) ?_
     refine t1 6 ?_
     refine ca (adB u2) ?_ (hp:=has1 (has_take (has_own memA) hk2) (has1 (has_drop (has_own memA) hk2) has0))
     rintro sb _ ⟨hsb,rfl⟩
     refine nl ?_
     refine te (fun w hw=>lpt_at memA hw) ?_
     refine t1 7 ?_
     refine cav (cap:=#[ptr c5,ptr c7]) (vs:=[sa,sb]) (ihM sa sb) ?_
     rintro ml _ ⟨hml,rfl⟩
     refine nl ?_
     refine te (fun w hw=>lpt_at memA hw) ?_
     refine t1 11 ?_
     refine ca (lsM ml lv lw hg hml) ?_
     rintro md _ ⟨hmd,rfl⟩
     refine nl ?_
     refine te (fun w hw=>lpt_at memA hw) ?_
     refine tka 12 ?_
     refine t0 ?_
     refine xc ?_
     exact kb md hmd _ _ (by (repeat (refine Sub.cons rfl (by first | rfl | go_num) ?_));exact Sub.nil) fitA
end Go.Art
namespace Go.Art
open Go Go.Proofs Go.RowKit
attribute [local irreducible] Fit pt own ro vw mpc lpt vels rels mow lrc dfr
theorem halves_tr (va vb:Value) (a b:List Nat) (least:Int) (ha:Dg a) (hb:Dg b) (hla:a.length ≤ 68719476736) (hlb:b.length ≤ 68719476736):Tr Tryz.prog 184 [va,vb,I least] [vw va (Us a),vw vb (Us b)] [] fun u D=>u.oneCell' = true∧D = [own T64 u (Us (dg (nv a * nv b)))]:=by
 have hC:=fun c5 c7=>hal1_tr c5 c7 least (max (dg (nv a)).length (dg (nv b)).length) va vb a b ha hb hla hlb (Nat.le_refl _)
 obtain ⟨m,hm⟩ : ∃ m,m = nv a * nv b:=⟨_,rfl⟩
 simp only [← hm] at hC
 rw [← hm]
 refine Tr.enter env _ Tryz.func184 (by kernel_rfl) rfl Tryz.ntmps184 rfl (by repeat (first | exact has00 | refine has01 ?_)) fun w0=>?_
 repeat' first|refine bx1 fun c5=>?_|refine al fun c7=>?_|(refine wo ?_;first|refine oa ?_|refine ld ?_|refine sr ?_)|refine sq ?_|refine rg ?_|refine xc ?_|refine nl ?_
 repeat' first|(refine cav (cap:=#[ptr c5,ptr c7]) (vs:=[va,vb]) (hC c5 c7) ?_;rintro u _ ⟨hu,rfl⟩)|(refine wo ?_;first|refine oa ?_)|refine xc ?_|refine nl ?_|refine rt ?_
 exact r1 ⟨hu,rfl⟩
theorem NMul_tr (va vb:Value) (a b:List Nat) (ha:Dg a) (hb:Dg b) (hla:a.length ≤ 68719476736) (hlb:b.length ≤ 68719476736):Tr Tryz.prog 124 [va,vb] [vw va (Us a),vw vb (Us b)] [] fun u D=>u.oneCell' = true∧D = [own T64 u (Us (dg (nv a * nv b)))]:=by
 refine Tr.enter env _ Tryz.func124 (by kernel_rfl) rfl Tryz.ntmps124 rfl (by repeat (first | exact has00 | refine has01 ?_)) fun w0=>?_
 repeat' first|(refine gca ?_;first|(refine ca (halves_tr va vb a b 32 ha hb hla hlb) ?_;rintro u _ ⟨hu,rfl⟩))|(refine wo ?_;first|refine oa ?_)|refine sq ?_|refine rg ?_|refine xc ?_|refine nl ?_|refine rt ?_
 exact r1 ⟨hu,rfl⟩
end Go.Art
namespace Go.Art
open Go Go.Proofs Go.RowKit
theorem sg_mul (z1 z2:Int):sg (!(decide (z1 < 0) == decide (z2 < 0))) (z1.natAbs * z2.natAbs) = z1 * z2:=by
 have h1:(z1 = z1.natAbs∧0 ≤ z1)∨(z1 = -(z1.natAbs:Int)∧z1 < 0):=by omega
 have h2:(z2 = z2.natAbs∧0 ≤ z2)∨(z2 = -(z2.natAbs:Int)∧z2 < 0):=by omega
 generalize z1.natAbs = a at *
 generalize z2.natAbs = b at *
 unfold sg
 rcases h1 with ⟨e1,g1⟩ | ⟨e1,g1⟩ <;> rcases h2 with ⟨e2,g2⟩ | ⟨e2,g2⟩
 ·simp only [show decide (z1 < 0) = false from decide_eq_false (by omega),show decide (z2 < 0) = false from decide_eq_false (by omega)]
  rw [e1,e2];simp
 ·simp only [show decide (z1 < 0) = false from decide_eq_false (by omega),show decide (z2 < 0) = true from decide_eq_true g2]
  rw [e1,e2];simp [Int.mul_neg]
 ·simp only [show decide (z1 < 0) = true from decide_eq_true g1,show decide (z2 < 0) = false from decide_eq_false (by omega)]
  rw [e1,e2];simp [Int.neg_mul]
 ·simp only [show decide (z1 < 0) = true from decide_eq_true g1,show decide (z2 < 0) = true from decide_eq_true g2]
  rw [e1,e2];simp [Int.neg_mul_neg]
theorem dz_mul {z1 z2:Int} {B:Nat} (h1:(dz z1).length ≤ B) (h2:(dz z2).length ≤ B):(dz (z1 * z2)).length ≤ 2 * B:=by
 unfold dz at *
 rw [Int.natAbs_mul]
 exact Nat.le_trans (dg_mul_len h1 h2) (by omega)
attribute [local irreducible] Fit pt own ro vw mpc lpt vels rels mow lrc dfr
theorem IMulF_tr (b1 b2:Bool) (v1 v2:Value) (l1 l2:List Nat) (d1:Dg l1) (d2:Dg l2) (h1:l1.length ≤ 34359738368) (h2:l2.length ≤ 34359738368) :
  Tr Tryz.prog 122 [.agg #[.bool b1,v1],.agg #[.bool b2,v2]] [vw v1 (Us l1),vw v2 (Us l2)] [] (IR (sg (!(b1 == b2)) (nv l1 * nv l2))):=by
 have hM:=NMul_tr v1 v2 l1 l2 d1 d2 (by omega) (by omega)
 have hlen:(dg (nv l1 * nv l2)).length ≤ 1099511627776:=by
  have:=dg_mul_len (dg_len_le d1) (dg_len_le d2)
  omega
 have hI:=fun b o=>IMake_tr b o (dg (nv l1 * nv l2)) (Dg_dg _) hlen
 rw [nv_dg] at hI
 unfold IR at hI ⊢
 obtain ⟨z,hz⟩ : ∃ z,z = sg (!(b1 == b2)) (nv l1 * nv l2):=⟨_,rfl⟩
 have hI2:=hI (!(b1 == b2))
 rw [← hz] at hI2 ⊢
 clear hI hz hlen
 generalize dg (nv l1 * nv l2) = pd at *
 refine Tr.enter env _ Tryz.func122 (by kernel_rfl) rfl Tryz.ntmps122 rfl (by repeat (first | exact has00 | refine has01 ?_)) fun w0=>?_
 repeat' first|refine bx fun q=>?_|refine al fun c=>?_|refine sq ?_|refine rg ?_|refine xc ?_|refine nl ?_
 rename_i q1
 refine rs (fun w=>w.heap[q1]? = some (.cells [.bool b1,v1].toArray TIt (0,0))∧w.heap[q]? = some (.cells [.bool b2,v2].toArray TIt (0,0))) ?_ (fun w hw=>⟨pt_at memA hw,pt_at memA hw⟩)
 refine tka 0 ?_
 refine tkl 1 (cs:=[.bool b1,v1]) (fun w h=>h.1) ?_
 refine tka 2 ?_
 refine tkl 3 (cs:=[.bool b2,v2]) (fun w h=>h.2) ?_
 refine tk 4 (v:=.bool (!(b1 == b2))) (fun _ _=>R_bne (E:=env) rfl rfl rfl) ?_
 refine tka 5 ?_
 refine tkl 6 (cs:=[.bool b1,v1]) (fun w h=>h.1) ?_
 refine tka 7 ?_
 refine tkl 8 (cs:=[.bool b2,v2]) (fun w h=>h.2) ?_
 refine t1 9 ?_
 refine ca hM ?_
 rintro o _ ⟨ho,rfl⟩
 refine nl ?_
 refine te (fun w hw=>⟨pt_at memA hw,pt_at memA hw⟩) ?_
 refine t1 10 ?_
 refine ca (hI2 o) ?_
 rintro _ _ ⟨o2,rfl,ho2,rfl⟩
 refine nl ?_
 refine te (fun w hw=>⟨pt_at memA hw,pt_at memA hw⟩) ?_
 refine t1 11 ?_
 refine srz ?_
 refine nl ?_
 refine te (fun w hw=>⟨pt_at memA hw,pt_at memA hw⟩) ?_
 refine t0 ?_
 repeat' first|refine xc ?_|refine rt ?_
 exact rca1 (cs:=[.bool (decide (z < 0)),o2]) (vs:=[.bool (decide (z < 0)),o2]) (T:=TIt) ⟨o2,rfl,ho2,rfl⟩
theorem along_tr (z1 z2:Int) (v1 v2:Value) (hs:decide (z1 < 0) = decide (z2 < 0)) (h1:(dz z1).length ≤ 549755813888) (h2:(dz z2).length ≤ 549755813888) :
  Tr Tryz.prog 181 [iv z1 v1,iv z2 v2] [vw v1 (Us (dz z1)),vw v2 (Us (dz z2))] [] (IR (z1 + z2)):=by
 have hA:=NAdd_tr v1 v2 (dz z1) (dz z2) (Dg_dg _) (Dg_dg _) (by omega) (by omega)
 have hlen:(dg (nv (dz z1) + nv (dz z2))).length ≤ 1099511627776:=by
  unfold dz at *
  rw [nv_dg,nv_dg]
  have:=dg_add_len (i:=549755813888) h1 h2
  omega
 have hI:=fun o=>IMake_tr (decide (z1 < 0)) o (dg (nv (dz z1) + nv (dz z2))) (Dg_dg _) hlen
 have e:sg (decide (z1 < 0)) (nv (dz z1) + nv (dz z2)) = z1 + z2:=by
  unfold sg dz
  rw [nv_dg,nv_dg]
  by_cases h:z1 < 0
  ·have:=of_decide_eq_true (hs.symm.trans (decide_eq_true h))
   rw [if_pos (by simpa using h)];omega
  ·have:=of_decide_eq_false (hs.symm.trans (decide_eq_false h))
   rw [if_neg (by simpa using h)];omega
 rw [show nv (dg (nv (dz z1) + nv (dz z2))) = nv (dz z1) + nv (dz z2) from nv_dg _,e] at hI
 unfold IR at hI ⊢
 obtain ⟨z,hz⟩ : ∃ z,z = z1 + z2:=⟨_,rfl⟩
 rw [← hz] at hI ⊢
 clear hz hlen e hs
 generalize dg (nv (dz z1) + nv (dz z2)) = pd at *
 show Tr _ _ [.agg #[.bool (decide (z1 < 0)),v1],.agg #[.bool (decide (z2 < 0)),v2]] _ _ _
 generalize decide (z1 < 0) = b1 at *
 generalize decide (z2 < 0) = b2 at *
 generalize dz z1 = l1 at *
 generalize dz z2 = l2 at *
 refine Tr.enter env _ Tryz.func181 (by kernel_rfl) rfl Tryz.ntmps181 rfl (by repeat (first | exact has00 | refine has01 ?_)) fun w0=>?_
 repeat' first|refine bx fun q=>?_|refine al fun c=>?_|refine sq ?_|refine rg ?_|refine xc ?_|refine nl ?_
 rename_i q1
 refine rs (fun w=>w.heap[q1]? = some (.cells [.bool b1,v1].toArray TIt (0,0))∧w.heap[q]? = some (.cells [.bool b2,v2].toArray TIt (0,0))) ?_ (fun w hw=>⟨pt_at memA hw,pt_at memA hw⟩)
 refine tka 0 ?_
 refine tkl 1 (cs:=[.bool b1,v1]) (fun w h=>h.1) ?_
 refine tka 2 ?_
 refine tkl 3 (cs:=[.bool b1,v1]) (fun w h=>h.1) ?_
 refine tka 4 ?_
 refine tkl 5 (cs:=[.bool b2,v2]) (fun w h=>h.2) ?_
 refine t1 6 ?_
 refine ca hA ?_
 rintro o _ ⟨ho,rfl⟩
 refine nl ?_
 refine te (fun w hw=>⟨pt_at memA hw,pt_at memA hw⟩) ?_
 refine t1 7 ?_
 refine ca (hI o) ?_
 rintro _ _ ⟨o2,rfl,ho2,rfl⟩
 refine nl ?_
 refine te (fun w hw=>⟨pt_at memA hw,pt_at memA hw⟩) ?_
 refine t1 8 ?_
 refine srz ?_
 refine nl ?_
 refine te (fun w hw=>⟨pt_at memA hw,pt_at memA hw⟩) ?_
 refine t0 ?_
 repeat' first|refine xc ?_|refine rt ?_
 exact rca1 (cs:=[.bool (decide (z < 0)),o2]) (vs:=[.bool (decide (z < 0)),o2]) (T:=TIt) ⟨o2,rfl,ho2,rfl⟩
theorem against_tr (z1 z2:Int) (v1 v2:Value) (hs:decide (z1 < 0) ≠ decide (z2 < 0)) (h1:(dz z1).length ≤ 549755813888) (h2:(dz z2).length ≤ 549755813888) :
  Tr Tryz.prog 182 [iv z1 v1,iv z2 v2] [vw v1 (Us (dz z1)),vw v2 (Us (dz z2))] [] (IR (z1 + z2)):=by
 have hnn:(z1 < 0∧¬ z2 < 0)∨(¬ z1 < 0∧z2 < 0):=by
  by_cases g1:z1 < 0
  ·by_cases g2:z2 < 0
   ·exact absurd (by rw [decide_eq_true g1,decide_eq_true g2]) hs
   ·exact .inl ⟨g1,g2⟩
  ·by_cases g2:z2 < 0
   ·exact .inr ⟨g1,g2⟩
   ·exact absurd (by rw [decide_eq_false g1,decide_eq_false g2]) hs
 by_cases hle:z2.natAbs ≤ z1.natAbs
 ·have hA:=NSub_tr v1 v2 (dz z1) (dz z2) (Dg_dg _) (Dg_dg _) (by omega) (by omega) (by unfold dz;rw [nv_dg,nv_dg];exact hle)
  have hlen:(dg (nv (dz z1) - nv (dz z2))).length ≤ 1099511627776:=by
   unfold dz at *
   rw [nv_dg,nv_dg]
   exact Nat.le_trans (dg_mono (Nat.sub_le _ _)) (by omega)
  have hI:=fun o=>IMake_tr (decide (z1 < 0)) o (dg (nv (dz z1) - nv (dz z2))) (Dg_dg _) hlen
  have e:sg (decide (z1 < 0)) (nv (dz z1) - nv (dz z2)) = z1 + z2:=by
   unfold sg dz
   rw [nv_dg,nv_dg]
   by_cases h:z1 < 0
   ·rw [if_pos (by simpa using h)];omega
   ·rw [if_neg (by simpa using h)];omega
  rw [show nv (dg (nv (dz z1) - nv (dz z2))) = nv (dz z1) - nv (dz z2) from nv_dg _,e] at hI
  unfold IR at hI ⊢
  obtain ⟨z,hz⟩ : ∃ z,z = z1 + z2:=⟨_,rfl⟩
  rw [← hz] at hI ⊢
  clear hz hlen e hs hnn hle
  generalize dg (nv (dz z1) - nv (dz z2)) = pd at *
  show Tr _ _ [.agg #[.bool (decide (z1 < 0)),v1],.agg #[.bool (decide (z2 < 0)),v2]] _ _ _
  generalize decide (z1 < 0) = b1 at *
  generalize decide (z2 < 0) = b2 at *
  generalize dz z1 = l1 at *
  generalize dz z2 = l2 at *
  refine Tr.enter env _ Tryz.func182 (by kernel_rfl) rfl Tryz.ntmps182 rfl (by repeat (first | exact has00 | refine has01 ?_)) fun w0=>?_
  repeat' first|(refine gca ?_;first|(refine ca hA ?_;rintro _ _ ⟨o,rfl,ho,rfl⟩)|(refine ca (hI o) ?_;rintro _ _ ⟨o2,rfl,ho2,rfl⟩))|refine bx fun q=>?_|refine al fun c=>?_|refine srz ?_|(refine wo ?_;first|(refine ao ?_;first|refine oa ?_)|refine oa ?_|refine ld ?_)|(refine gc ?_;first|refine ct ?_)|refine sq ?_|refine rg ?_|refine xc ?_|refine nl ?_|refine rt ?_
  exact rca1 (cs:=[.bool (decide (z < 0)),o2]) (vs:=[.bool (decide (z < 0)),o2]) (T:=TIt) ⟨o2,rfl,ho2,rfl⟩
 ·have hA:=NSub0_tr v1 v2 (dz z1) (dz z2) (Dg_dg _) (Dg_dg _) (by unfold dz;rw [nv_dg,nv_dg];omega)
  have hB2:=NSub_tr v2 v1 (dz z2) (dz z1) (Dg_dg _) (Dg_dg _) (by omega) (by omega) (by unfold dz;rw [nv_dg,nv_dg];omega)
  have hlen:(dg (nv (dz z2) - nv (dz z1))).length ≤ 1099511627776:=by
   unfold dz at *
   rw [nv_dg,nv_dg]
   exact Nat.le_trans (dg_mono (Nat.sub_le _ _)) (by omega)
  have hI:=fun o=>IMake_tr (decide (z2 < 0)) o (dg (nv (dz z2) - nv (dz z1))) (Dg_dg _) hlen
  have e:sg (decide (z2 < 0)) (nv (dz z2) - nv (dz z1)) = z1 + z2:=by
   unfold sg dz
   rw [nv_dg,nv_dg]
   by_cases h:z2 < 0
   ·rw [if_pos (by simpa using h)];omega
   ·rw [if_neg (by simpa using h)];omega
  rw [show nv (dg (nv (dz z2) - nv (dz z1))) = nv (dz z2) - nv (dz z1) from nv_dg _,e] at hI
  unfold IR at hI ⊢
  obtain ⟨z,hz⟩ : ∃ z,z = z1 + z2:=⟨_,rfl⟩
  rw [← hz] at hI ⊢
  clear hz hlen e hs hnn hle
  generalize dg (nv (dz z2) - nv (dz z1)) = pd at *
  show Tr _ _ [.agg #[.bool (decide (z1 < 0)),v1],.agg #[.bool (decide (z2 < 0)),v2]] _ _ _
  generalize decide (z1 < 0) = b1 at *
  generalize decide (z2 < 0) = b2 at *
  generalize dz z1 = l1 at *
  generalize dz z2 = l2 at *
  refine Tr.enter env _ Tryz.func182 (by kernel_rfl) rfl Tryz.ntmps182 rfl (by repeat (first | exact has00 | refine has01 ?_)) fun w0=>?_
  repeat' first|(refine gca ?_;first|(refine ca hA ?_;rintro _ _ ⟨rfl,rfl⟩)|(refine ca hB2 ?_;rintro _ _ ⟨o,rfl,ho,rfl⟩)|(refine ca (hI o) ?_;rintro _ _ ⟨o2,rfl,ho2,rfl⟩))|refine bx fun q=>?_|refine al fun c=>?_|refine srz ?_|(refine wo ?_;first|(refine ao ?_;first|refine oa ?_)|refine oa ?_|refine ld ?_)|(refine gc ?_;first|refine cf ?_)|refine sq ?_|refine rg ?_|refine xc ?_|refine nl ?_|refine sk ?_|refine rt ?_
  exact rca1 (cs:=[.bool (decide (z < 0)),o2]) (vs:=[.bool (decide (z < 0)),o2]) (T:=TIt) ⟨o2,rfl,ho2,rfl⟩
theorem IAdd_tr (z1 z2:Int) (v1 v2:Value) (g1:v1.oneCell' = true) (g2:v2.oneCell' = true) (h1:(dz z1).length ≤ 549755813888) (h2:(dz z2).length ≤ 549755813888) :
  Tr Tryz.prog 121 [iv z1 v1,iv z2 v2] [vw v1 (Us (dz z1)),vw v2 (Us (dz z2))] [] (IR (z1 + z2)):=by
 by_cases hs:decide (z1 < 0) = decide (z2 < 0)
 ·have hA:=along_tr z1 z2 v1 v2 hs h1 h2
  unfold IR at hA ⊢
  obtain ⟨z,hz⟩ : ∃ z,z = z1 + z2:=⟨_,rfl⟩
  rw [← hz] at hA ⊢
  clear hz
  show Tr _ _ [.agg #[.bool (decide (z1 < 0)),v1],.agg #[.bool (decide (z2 < 0)),v2]] _ _ _
  change Tr _ _ [.agg #[.bool (decide (z1 < 0)),v1],.agg #[.bool (decide (z2 < 0)),v2]] _ _ _ at hA
  rw [← hs] at hA ⊢
  generalize decide (z1 < 0) = b1 at *
  generalize dz z1 = l1 at *
  generalize dz z2 = l2 at *
  have hb:(!(b1 == b1)) = false:=by simp
  refine Tr.enter env _ Tryz.func121 (by kernel_rfl) rfl Tryz.ntmps121 rfl (by repeat (first | exact has00 | refine has01 ?_)) fun w0=>?_
  repeat' first|refine bx fun q=>?_|refine al fun c=>?_|(refine ibn ?_;rw [hb])|(refine wo ?_;first|refine oa ?_|refine ld ?_)|(refine gc ?_;first|refine cf ?_)|refine sq ?_|refine rg ?_|refine xc ?_|refine nl ?_|refine sk ?_
  rename_i q1
  refine rs (fun w=>w.heap[q1]? = some (.cells [.bool b1,v1].toArray TIt (0,0))∧w.heap[q]? = some (.cells [.bool b1,v2].toArray TIt (0,0))) ?_ (fun w hw=>⟨pt_at memA hw,pt_at memA hw⟩)
  refine tk 0 (v:=.agg #[.func (.func 181) #[] #[],.func (.func 182) #[] #[]]) (fun w h=>R_buildArr (E:=env) rfl rfl rfl rfl rfl) ?_
  refine tka 1 ?_
  refine tk 2 (v:=.func (.func 181) #[] #[]) (fun w h=>R_index1 (E:=env) (m:=2) (i:=0) rfl rfl rfl rfl rfl rfl (by decide) rfl) ?_
  refine tk 3 (v:=.agg #[.bool b1,v1]) (fun w h=>R_loadA (E:=env) (vs:=[.bool b1,v1]) rfl rfl rfl rfl h.1 rfl rfl) ?_
  refine tk 4 (v:=.agg #[.bool b1,v2]) (fun w h=>R_loadA (E:=env) (vs:=[.bool b1,v2]) rfl rfl rfl rfl h.2 rfl rfl) ?_
  refine t1 5 ?_
  refine cav (cap:=#[]) (vs:=[.agg #[.bool b1,v1],.agg #[.bool b1,v2]]) hA ?_
  rintro _ _ ⟨o2,rfl,ho2,rfl⟩
  refine nl ?_
  refine te (fun w hw=>⟨pt_at memA hw,pt_at memA hw⟩) ?_
  refine t1 6 ?_
  refine srz ?_
  refine nl ?_
  refine te (fun w hw=>⟨pt_at memA hw,pt_at memA hw⟩) ?_
  refine t0 ?_
  repeat' first|refine xc ?_|refine rt ?_
  exact rca1 (cs:=[.bool (decide (z < 0)),o2]) (vs:=[.bool (decide (z < 0)),o2]) (T:=TIt) ⟨o2,rfl,ho2,rfl⟩
 ·have hA:=against_tr z1 z2 v1 v2 hs h1 h2
  unfold IR at hA ⊢
  obtain ⟨z,hz⟩ : ∃ z,z = z1 + z2:=⟨_,rfl⟩
  rw [← hz] at hA ⊢
  clear hz
  show Tr _ _ [.agg #[.bool (decide (z1 < 0)),v1],.agg #[.bool (decide (z2 < 0)),v2]] _ _ _
  change Tr _ _ [.agg #[.bool (decide (z1 < 0)),v1],.agg #[.bool (decide (z2 < 0)),v2]] _ _ _ at hA
  generalize decide (z1 < 0) = b1 at *
  generalize decide (z2 < 0) = b2 at *
  generalize dz z1 = l1 at *
  generalize dz z2 = l2 at *
  have hb:(!(b1 == b2)) = true:=by simpa using hs
  refine Tr.enter env _ Tryz.func121 (by kernel_rfl) rfl Tryz.ntmps121 rfl (by repeat (first | exact has00 | refine has01 ?_)) fun w0=>?_
  repeat' first|refine bx fun q=>?_|refine al fun c=>?_|(refine ibn ?_;rw [hb])|(refine wo ?_;first|refine oa ?_|refine ld ?_)|(refine gc ?_;first|refine ct ?_)|refine sq ?_|refine rg ?_|refine xc ?_|refine nl ?_
  rename_i q1
  refine rs (fun w=>w.heap[q1]? = some (.cells [.bool b1,v1].toArray TIt (0,0))∧w.heap[q]? = some (.cells [.bool b2,v2].toArray TIt (0,0))) ?_ (fun w hw=>⟨pt_at memA hw,pt_at memA hw⟩)
  refine tk 0 (v:=.agg #[.func (.func 181) #[] #[],.func (.func 182) #[] #[]]) (fun w h=>R_buildArr (E:=env) rfl rfl rfl rfl rfl) ?_
  refine tka 1 ?_
  refine tk 2 (v:=.func (.func 182) #[] #[]) (fun w h=>R_index1 (E:=env) (m:=2) (i:=1) rfl rfl rfl rfl rfl rfl (by decide) rfl) ?_
  refine tk 3 (v:=.agg #[.bool b1,v1]) (fun w h=>R_loadA (E:=env) (vs:=[.bool b1,v1]) rfl rfl rfl rfl h.1 rfl rfl) ?_
  refine tk 4 (v:=.agg #[.bool b2,v2]) (fun w h=>R_loadA (E:=env) (vs:=[.bool b2,v2]) rfl rfl rfl rfl h.2 rfl rfl) ?_
  refine t1 5 ?_
  refine cav (cap:=#[]) (vs:=[.agg #[.bool b1,v1],.agg #[.bool b2,v2]]) hA ?_
  rintro _ _ ⟨o2,rfl,ho2,rfl⟩
  refine nl ?_
  refine te (fun w hw=>⟨pt_at memA hw,pt_at memA hw⟩) ?_
  refine t1 6 ?_
  refine srz ?_
  refine nl ?_
  refine te (fun w hw=>⟨pt_at memA hw,pt_at memA hw⟩) ?_
  refine t0 ?_
  repeat' first|refine xc ?_|refine rt ?_
  exact rca1 (cs:=[.bool (decide (z < 0)),o2]) (vs:=[.bool (decide (z < 0)),o2]) (T:=TIt) ⟨o2,rfl,ho2,rfl⟩
end Go.Art
namespace Go.Art
open Go Go.Proofs Go.RowKit
abbrev Fr3:=Bool × List Nat × List Nat
abbrev rqf (q:Rat):Fr3:=(decide (q.num < 0),dg q.num.natAbs,dg q.den)
abbrev rqn:Fr3:=(false,[],[])
abbrev FW (t:Fr3 × Int) (u:Value) (D:List Ch):Prop:=∃ vn vd,u = tup2 (.agg #[.bool t.1.1,vn,vd]) (I t.2)∧vn.oneCell' = true∧vd.oneCell' = true∧D = [own T64 vn (Us t.1.2.1),own T64 vd (Us t.1.2.2)]
theorem FW.of0 {e:Int} {u:Value} {D:List Ch} (h:u = tup2 rv0 (I e)∧D = [own T64 nS (Us []),own T64 nS (Us [])]):FW (rqn,e) u D:=⟨nS,nS,h.1,rfl,rfl,h.2⟩
def meaW (tot:Int) (cut oth:List Int) (k d:Int):Fr3 × Int:=
 if rwE tot cut oth k = 0 then (if d < 1∨cut.length < d then (rqn,3) else (rqf (mkRat 1 (fall k.toNat d.toNat * cut.length * tot.toNat)),0)) else (rqn,rwE tot cut oth k)
def chaW (t:List Int) (k d:Int):Fr3 × Int:=
 if solE t k = 0 then (if d < 1∨t.length < d then (rqn,3) else (rqf (mkRat (t.getD (d - 1).toNat 0) (chs k.toNat d.toNat * t.sum.toNat)),0)) else (rqn,13)
section
variable {P:Program} {E:Env P} {X:Cx} {fr:Fr} {A D G:List Ch}
theorem rcc {w0:World} {A0:List Ch} {R':Value→List Ch→Prop} {fn:Func} {t nn:Nat} {ty T:TypeId} {dt:TypeDesc} {b:Nat} {cs:List Value} {v:Value} (h:R' v D) (hr:fn.results = #[.cell t ty]:=by rfl) (ht:lk E.und ty = some dt:=by rfl) (hg:aggB dt = false:=by rfl)
  (hv:get fr t = some (ptr b):=by rfl) (hm:pt b cs T ∈ A:=by exact memA) (hc:cs[0]? = some v:=by rfl) (hf:Fit A D G:=by exact fitA) (nb:∀ c ∈ D,∀ b,¬ c.bd b:=by (repeat (first | exact nb0 | refine nb1 ?_));first | done | fail) :
  TX E ⟨nn,[],none⟩ ⟨bodyPost P fn (RetP (PR w0 A0 R')),w0,A0⟩ [] .ret fr A:=⟨fun w hw=>⟨fun a ha=>
 bodyPost_ret (res_c (E:=E) ha hr ht hg hv (ptcell hw.sat hm hc)) (ha.defers.trans rfl) ⟨_,rfl,PR.mk h hw hf nb⟩⟩⟩
end
attribute [local irreducible] Fit pt own ro vw mpc lpt vels rels mow lrc dfr
attribute [local irreducible] lmp lme mit velg relg
theorem one_tr:Tr Tryz.prog 70 [] [] [] fun u D=>u.oneCell' = true∧D = [own T64 u (Us [1])]:=by
 refine Tr.enter env _ Tryz.func70 (by kernel_rfl) rfl Tryz.ntmps70 rfl (by repeat (first | exact has00 | refine has01 ?_)) fun w0=>?_
 repeat' first|(refine slu [1] fun o ho=>?_)|(refine wo ?_;first|refine oa ?_)|refine sq ?_|refine rg ?_|refine xc ?_|refine nl ?_|refine rt ?_
 exact r1 ⟨ho,rfl⟩
theorem soAdd_tr (c:Nat) (m w:Int) (h : -9223372036854775808 ≤ m + w∧m + w ≤ 9223372036854775807):Tr Tryz.prog 198 [I w,ptr c] [] [pt c [I m] TLI] fun _ D=>D = [pt c [I (m + w)] TLI]:=by
 refine Tr.enter env _ Tryz.func198 (by kernel_rfl) rfl Tryz.ntmps198 rfl (by repeat (first | exact has00 | refine has01 ?_)) fun w0=>?_
 repeat' first|(refine wo ?_;first|(refine ao ?_;first|refine aw ?_)|refine oa ?_|refine ld ?_|refine sr ?_)|refine rg ?_|refine nl ?_
 exact e0 rfl
theorem SoTotal_tr (s:Value) (t:List Int) (h1:1 ≤ t.length∧t.length ≤ 65536) (hw:∀ w ∈ t,0 ≤ w∧w ≤ 16777215):Tr Tryz.prog 139 [s] [vw s (Is t)] [] fun v D=>v = I t.sum∧D = []:=by
 refine Tr.enter env _ Tryz.func139 (by kernel_rfl) rfl Tryz.ntmps139 rfl (by repeat (first | exact has00 | refine has01 ?_)) fun w0=>?_
 repeat' first|refine al fun c=>?_|(refine wo ?_;first|refine oa ?_|refine lnm ?_)|refine sq ?_|refine rg ?_|refine xc ?_|refine nl ?_|refine bk ?_
 refine TC.loop (ι:=Nat) (fun i=>[(9,I i)]) (fun i=>[pt c [I (t.take i).sum] TLI]) (fun i=>i ≤ t.length) (fun i=>t.length - i) 0 [2,3,7,8] (by simp) ?_
 rintro i h2
 by_cases hi:i < t.length
 ·have hs:=take_sum hi
  have hb:=hw _ (mem_getD.2 ⟨i,hi,rfl⟩)
  have hc:=sum_bound (t:=t.take i) fun w h=>hw w (List.mem_of_mem_take h)
  rw [List.length_take] at hc
  generalize hy:t.getD i 0 = y at *
  generalize (t.take i).sum = m at *
  repeat' first|refine lie hy ?_|(refine cav (cap:=#[ptr c]) (vs:=[I y]) (soAdd_tr c m y (by omega)) ?_;rintro _ _ rfl)|(refine wo ?_;first|(refine ao ?_;first|refine aw ?_|refine oa ?_)|refine oa ?_|refine ixmn ?_)|(refine gc ?_;first|(refine ci (fun hB=>?_) (fun hB=>?_) <;> try (exfalso;omega)))|refine sq ?_|refine rg ?_|refine xc ?_|refine nl ?_|refine sk ?_|refine bk ?_|refine xb ?_
  exact lp (i + 1) (by omega) (hf:=by rw [hs];exact fitA)
 ·obtain rfl:i = t.length:=by omega
  rw [List.take_length]
  repeat' first|(refine wo ?_;first|(refine ao ?_;first|refine oa ?_)|refine ld ?_|refine sr ?_)|(refine gc ?_;first|(refine ci (fun hB=>?_) (fun hB=>?_) <;> try (exfalso;omega)))|refine sq ?_|refine rg ?_|refine xc ?_|refine nl ?_|refine xe ?_|refine rt ?_
  exact rcc (cs:=[I t.sum]) (T:=TLI) ⟨rfl,rfl⟩
end Go.Art
namespace Go.Art
open Go Go.Proofs Go.RowKit
def FB (q:Rat) (B:Nat):Prop:=(dg q.num.natAbs).length ≤ B∧(dg q.den).length ≤ B
theorem FB.le {q:Rat} {B C:Nat} (h:FB q B) (k:B ≤ C):FB q C:=⟨Nat.le_trans h.1 k,Nat.le_trans h.2 k⟩
theorem sg_mulN (z:Int) (m:Nat):sg (!(decide (z < 0) == false)) (z.natAbs * m) = z * m:=by
 have:=sg_mul z (m:Int)
 rwa [show decide ((m:Int) < 0) = false from decide_eq_false (by omega),Int.natAbs_natCast] at this
theorem sg_dz (z:Int):sg (decide (z < 0)) (nv (dz z)) = z:=by
 unfold sg;rw [nv_dg]
 by_cases h:z < 0
 ·rw [if_pos (by simpa using h)];omega
 ·rw [if_neg (by simpa using h)];omega
attribute [local irreducible] Fit pt own ro vw mpc lpt vels rels mow lrc dfr
attribute [local irreducible] lmp lme mit velg relg
theorem FCheck_tr (q:Rat) (vn vd:Value) (hn:vn.oneCell' = true) (hd:vd.oneCell' = true) (hB:FB q 549755813888):Tr Tryz.prog 92 [rv q vn vd] [vw vn (Us (dg q.num.natAbs)),vw vd (Us (dg q.den))] [] fun u D=>u = I 0∧D = []:=by
 have hC:=ICheck_tr (decide (q.num < 0)) vn (dz q.num)
 rw [if_neg (icheck_ok q.num)] at hC
 have hK:=Check_tr vd (dg q.den)
 rw [if_neg (Tm_top (Tm_dg _))] at hK
 have hl:=dg_len_pos q.den_nz
 have hG:=NGcd_tr vn vd (dg q.num.natAbs) (dg q.den) (Dg_dg _) (Dg_dg _) hB.1 hB.2
 rw [nv_dg,nv_dg,show Nat.gcd q.num.natAbs q.den = 1 from q.reduced] at hG
 have hM:=fun v1 v2=>Cmp_tr v1 v2 (dg 1) [1] (Dg_dg _) (Dg.one (by decide))
 rw [nv_dg,show nv [1] = 1 from rfl,show cmpN 1 1 = 0 by decide] at hM
 obtain ⟨b,hb⟩ : ∃ b,b = decide (q.num < 0):=⟨_,rfl⟩
 show Tr _ _ [.agg #[.bool (decide (q.num < 0)),vn,vd]] _ _ _
 rw [← hb] at hC ⊢
 unfold dz at hC
 generalize dg q.num.natAbs = l1 at *
 generalize dg q.den = l2 at *
 clear hB hb
 refine Tr.enter env _ Tryz.func92 (by kernel_rfl) rfl Tryz.ntmps92 rfl (by repeat (first | exact has00 | refine has01 ?_)) fun w0=>?_
 repeat' first|(refine gca ?_;first|(refine ca hC ?_;rintro _ _ ⟨rfl,rfl⟩)|(refine ca hK ?_;rintro _ _ ⟨rfl,rfl⟩)|(refine ca hG ?_;rintro g _ ⟨hg,rfl⟩)|(refine ca one_tr ?_;rintro o _ ⟨ho,rfl⟩)|(refine ca (hM g o) ?_;rintro _ _ ⟨rfl,rfl⟩))|refine bx fun q=>?_|refine lda ?_|(refine wo ?_;first|(refine ao ?_;first|refine oa ?_)|refine oa ?_|refine ld ?_|refine lnm ?_|refine gy ?_|(refine gsi (fun hB=>?_) (fun hB=>?_) <;> try (exfalso;omega)))|(refine gc ?_;first|refine cf ?_)|refine sq ?_|refine rg ?_|refine xc ?_|refine nl ?_|refine sk ?_|refine rt ?_
 exact r1 ⟨rfl,rfl⟩
theorem sumW_tr (v:Value) (hv:v.oneCell' = true):Tr Tryz.prog 120 [v] [] [] fun u D=>u = .agg #[.bool false,v]∧D = []:=by
 refine Tr.enter env _ Tryz.func120 (by kernel_rfl) rfl Tryz.ntmps120 rfl (by repeat (first | exact has00 | refine has01 ?_)) fun w0=>?_
 repeat' first|refine al fun c=>?_|refine bdz ?_|refine srz ?_|(refine wo ?_;first|refine oa ?_)|refine sq ?_|refine rg ?_|refine xc ?_|refine nl ?_|refine rt ?_
 exact rca1 (cs:=[.bool false,v]) (vs:=[.bool false,v]) (T:=TIt) ⟨rfl,rfl⟩
theorem FSum_tr (q r:Rat) (v1 v2 v3 v4:Value) (h1:v1.oneCell' = true) (h2:v2.oneCell' = true) (h3:v3.oneCell' = true) (h4:v4.oneCell' = true) (hq:FB q 8589934592) (hr:FB r 8589934592) :
  Tr Tryz.prog 71 [rv q v1 v2,rv r v3 v4] [vw v1 (Us (dg q.num.natAbs)),vw v2 (Us (dg q.den)),vw v3 (Us (dg r.num.natAbs)),vw v4 (Us (dg r.den))] [] (FQ (q + r)):=by
 have hM1:=IMulF_tr (decide (q.num < 0)) false v1 v4 (dg q.num.natAbs) (dg r.den) (Dg_dg _) (Dg_dg _) (by have:=hq.1;omega) (by have:=hr.2;omega)
 have hM2:=IMulF_tr (decide (r.num < 0)) false v3 v2 (dg r.num.natAbs) (dg q.den) (Dg_dg _) (Dg_dg _) (by have:=hr.1;omega) (by have:=hq.2;omega)
 have hM3:=NMul_tr v2 v4 (dg q.den) (dg r.den) (Dg_dg _) (Dg_dg _) (by have:=hq.2;omega) (by have:=hr.2;omega)
 rw [nv_dg,nv_dg] at hM1 hM2 hM3
 rw [sg_mulN] at hM1 hM2
 have l1:(dz (q.num * r.den)).length ≤ 17179869184:=dz_mul hq.1 (by unfold dz;rw [Int.natAbs_natCast];exact hr.2)
 have l2:(dz (r.num * q.den)).length ≤ 17179869184:=dz_mul hr.1 (by unfold dz;rw [Int.natAbs_natCast];exact hq.2)
 have l3:(dg (q.den * r.den)).length ≤ 17179869184:=dg_mul_len hq.2 hr.2
 have l4:(dz (q.num * r.den + r.num * q.den)).length ≤ 17179869185:=by
  unfold dz at *
  exact Nat.le_trans (dg_mono (Int.natAbs_add_le _ _)) (dg_add_len l1 l2)
 have hA:=fun o1 o2 g1 g2=>IAdd_tr (q.num * r.den) (r.num * q.den) o1 o2 g1 g2 (by omega) (by omega)
 have hL:=fun o d=>lowest_tr (decide (q.num * r.den + r.num * q.den < 0)) o d (dz (q.num * r.den + r.num * q.den)) (dg (q.den * r.den)) (Dg_dg _) (Dg_dg _) (by omega) (by omega) (by rw [nv_dg];exact Nat.mul_ne_zero q.den_nz r.den_nz)
 rw [sg_dz,nv_dg,← Rat.add_def'] at hL
 obtain ⟨s,hs⟩ : ∃ s,s = q + r:=⟨_,rfl⟩
 rw [← hs] at hL ⊢
 clear hs l1 l2 l3 l4 hq hr
 unfold IR at hM1 hM2 hA
 unfold FQ at hL
 show Tr _ _ [.agg #[.bool (decide (q.num < 0)),v1,v2],.agg #[.bool (decide (r.num < 0)),v3,v4]] _ _ _
 generalize q.num * r.den + r.num * q.den = z3 at *
 generalize q.num * r.den = z1 at *
 generalize r.num * q.den = z2 at *
 generalize dg (q.den * r.den) = l3 at *
 generalize dg q.num.natAbs = lq at *
 generalize dg q.den = lqd at *
 generalize dg r.num.natAbs = lr at *
 generalize dg r.den = lrd at *
 generalize decide (q.num < 0) = b1 at *
 generalize decide (r.num < 0) = b2 at *
 refine Tr.enter env _ Tryz.func71 (by kernel_rfl) rfl Tryz.ntmps71 rfl (by repeat (first | exact has00 | refine has01 ?_)) fun w0=>?_
 repeat' first|refine bx fun q=>?_|refine al fun c=>?_|(refine wo ?_;first|refine oa ?_)|refine sq ?_|refine rg ?_|refine xc ?_|refine nl ?_
 rename_i q1
 refine cutY (ι:=Nat × Value) (fun g=>g.2.oneCell' = true) (fun g=>[(2,ptr q1),(3,ptr q),(4,ptr c),(6,ptr g.1)]) (fun g=>[pt q1 [.bool b1,v1,v2] TRt,pt q [.bool b2,v3,v4] TRt,pt c [.bool false,nS,nS] TRt,pt g.1 [.bool (decide (z3 < 0)),g.2] TIt,own T64 g.2 (Us (dz z3)),vw v2 (Us lqd),vw v4 (Us lrd)]) ?_ ?_
 ·rintro ⟨c2,o3⟩ ho3
  dsimp only at ho3 ⊢
  repeat' first|refine sq ?_
  refine rs (fun w=>w.heap[q1]? = some (.cells [.bool b1,v1,v2].toArray TRt (0,0))∧w.heap[q]? = some (.cells [.bool b2,v3,v4].toArray TRt (0,0))∧w.heap[c2]? = some (.cells [.bool (decide (z3 < 0)),o3].toArray TIt (0,0))) ?_ (fun w hw=>⟨pt_at memA hw,pt_at memA hw,pt_at memA hw⟩)
  refine tk 0 (v:=.agg #[.bool (decide (z3 < 0)),o3]) (fun w h=>R_loadA (E:=env) (vs:=[.bool (decide (z3 < 0)),o3]) rfl rfl rfl rfl h.2.2 rfl rfl) ?_
  refine tka 1 ?_
  refine tkl 2 (cs:=[.bool b1,v1,v2]) (fun w h=>h.1) ?_
  refine tka 3 ?_
  refine tkl 4 (cs:=[.bool b2,v3,v4]) (fun w h=>h.2.1) ?_
  refine t1 5 ?_
  refine ca hM3 ?_
  rintro d3 _ ⟨hd3,rfl⟩
  refine nl ?_
  refine te (fun w hw=>⟨pt_at memA hw,pt_at memA hw,pt_at memA hw⟩) ?_
  refine t1 6 ?_
  refine ca (hL o3 d3) ?_
  rintro _ _ ⟨vn,vd,rfl,hvn,hvd,rfl⟩
  refine nl ?_
  refine te (fun w hw=>⟨pt_at memA hw,pt_at memA hw,pt_at memA hw⟩) ?_
  refine t1 7 ?_
  refine srz ?_
  refine nl ?_
  refine te (fun w hw=>⟨pt_at memA hw,pt_at memA hw,pt_at memA hw⟩) ?_
  refine t0 ?_
  repeat' first|refine xc ?_|refine rt ?_
  exact rca1 (cs:=[.bool (decide (s.num < 0)),vn,vd]) (vs:=[.bool (decide (s.num < 0)),vn,vd]) (T:=TRt) ⟨vn,vd,rfl,hvn,hvd,rfl⟩
 ·intro b' kb
  refine rs (fun w=>w.heap[q1]? = some (.cells [.bool b1,v1,v2].toArray TRt (0,0))∧w.heap[q]? = some (.cells [.bool b2,v3,v4].toArray TRt (0,0))) ?_ (fun w hw=>⟨pt_at memA hw,pt_at memA hw⟩)
  refine tka 0 ?_
  refine tk 1 (v:=.agg #[.bool b1,v1]) (fun w h=>R_loadA (E:=env) (vs:=[.bool b1,v1]) rfl rfl rfl rfl h.1 rfl rfl) ?_
  refine tka 2 ?_
  refine tka 3 ?_
  refine tkl 4 (cs:=[.bool b2,v3,v4]) (fun w h=>h.2) ?_
  refine tka 7 ?_
  refine tk 8 (v:=.agg #[.bool b2,v3]) (fun w h=>R_loadA (E:=env) (vs:=[.bool b2,v3]) rfl rfl rfl rfl h.2 rfl rfl) ?_
  refine tka 9 ?_
  refine tka 10 ?_
  refine tkl 11 (cs:=[.bool b1,v1,v2]) (fun w h=>h.1) ?_
  refine t2 5 15 ?_ ?_
  ·refine cav (cap:=#[]) (vs:=[v4]) (sumW_tr v4 h4) ?_
   rintro _ _ ⟨rfl,rfl⟩
   refine nl ?_
   refine te (fun w hw=>⟨pt_at memA hw,pt_at memA hw⟩) ?_
   refine t2 6 15 ?_ ?_
   ·refine ca hM1 ?_
    rintro _ _ ⟨o1,rfl,ho1,rfl⟩
    refine nl ?_
    refine te (fun w hw=>⟨pt_at memA hw,pt_at memA hw⟩) ?_
    refine t2 12 15 ?_ ?_
    ·refine cav (cap:=#[]) (vs:=[v2]) (sumW_tr v2 h2) ?_
     rintro _ _ ⟨rfl,rfl⟩
     refine nl ?_
     refine te (fun w hw=>⟨pt_at memA hw,pt_at memA hw⟩) ?_
     refine t2 13 15 ?_ ?_
     ·refine ca hM2 ?_
      rintro _ _ ⟨o2,rfl,ho2,rfl⟩
      refine nl ?_
      refine te (fun w hw=>⟨pt_at memA hw,pt_at memA hw⟩) ?_
      refine t2 14 15 ?_ ?_
      ·refine ca (hA o1 o2 ho1 ho2) ?_
       rintro _ _ ⟨o3,rfl,ho3,rfl⟩
       refine nl ?_
       refine te (fun w hw=>⟨pt_at memA hw,pt_at memA hw⟩) ?_
       refine t1 15 ?_
       refine al fun c2=>?_
       refine nl ?_
       refine te (fun w hw=>⟨pt_at memA hw,pt_at memA hw⟩) ?_
       refine t1 16 ?_
       refine srz ?_
       refine nl ?_
       refine te (fun w hw=>⟨pt_at memA hw,pt_at memA hw⟩) ?_
       refine t0 ?_
       repeat' first|refine xc ?_
       exact kb (c2,o3) ho3 _ _ (by (repeat (refine Sub.cons rfl (by first | rfl | go_num) ?_));exact Sub.nil) fitA
      ·refine al fun c2=>?_
       refine nl ?_
       refine te (fun w hw=>⟨pt_at memA hw,pt_at memA hw⟩) ?_
       refine t1 14 ?_
       refine ca (hA o1 o2 ho1 ho2) ?_
       rintro _ _ ⟨o3,rfl,ho3,rfl⟩
       refine nl ?_
       refine te (fun w hw=>⟨pt_at memA hw,pt_at memA hw⟩) ?_
       refine t1 16 ?_
       refine srz ?_
       refine nl ?_
       refine te (fun w hw=>⟨pt_at memA hw,pt_at memA hw⟩) ?_
       refine t0 ?_
       repeat' first|refine xc ?_
       exact kb (c2,o3) ho3 _ _ (by (repeat (refine Sub.cons rfl (by first | rfl | go_num) ?_));exact Sub.nil) fitA
     ·refine al fun c2=>?_
      refine nl ?_
      refine te (fun w hw=>⟨pt_at memA hw,pt_at memA hw⟩) ?_
      refine t1 13 ?_
      refine ca hM2 ?_
      rintro _ _ ⟨o2,rfl,ho2,rfl⟩
      refine nl ?_
      refine te (fun w hw=>⟨pt_at memA hw,pt_at memA hw⟩) ?_
      refine t1 14 ?_
      refine ca (hA o1 o2 ho1 ho2) ?_
      rintro _ _ ⟨o3,rfl,ho3,rfl⟩
      refine nl ?_
      refine te (fun w hw=>⟨pt_at memA hw,pt_at memA hw⟩) ?_
      refine t1 16 ?_
      refine srz ?_
      refine nl ?_
      refine te (fun w hw=>⟨pt_at memA hw,pt_at memA hw⟩) ?_
      refine t0 ?_
      repeat' first|refine xc ?_
      exact kb (c2,o3) ho3 _ _ (by (repeat (refine Sub.cons rfl (by first | rfl | go_num) ?_));exact Sub.nil) fitA
    ·refine al fun c2=>?_
     refine nl ?_
     refine te (fun w hw=>⟨pt_at memA hw,pt_at memA hw⟩) ?_
     refine t1 12 ?_
     refine cav (cap:=#[]) (vs:=[v2]) (sumW_tr v2 h2) ?_
     rintro _ _ ⟨rfl,rfl⟩
     refine nl ?_
     refine te (fun w hw=>⟨pt_at memA hw,pt_at memA hw⟩) ?_
     refine t1 13 ?_
     refine ca hM2 ?_
     rintro _ _ ⟨o2,rfl,ho2,rfl⟩
     refine nl ?_
     refine te (fun w hw=>⟨pt_at memA hw,pt_at memA hw⟩) ?_
     refine t1 14 ?_
     refine ca (hA o1 o2 ho1 ho2) ?_
     rintro _ _ ⟨o3,rfl,ho3,rfl⟩
     refine nl ?_
     refine te (fun w hw=>⟨pt_at memA hw,pt_at memA hw⟩) ?_
     refine t1 16 ?_
     refine srz ?_
     refine nl ?_
     refine te (fun w hw=>⟨pt_at memA hw,pt_at memA hw⟩) ?_
     refine t0 ?_
     repeat' first|refine xc ?_
     exact kb (c2,o3) ho3 _ _ (by (repeat (refine Sub.cons rfl (by first | rfl | go_num) ?_));exact Sub.nil) fitA
   ·refine al fun c2=>?_
    refine nl ?_
    refine te (fun w hw=>⟨pt_at memA hw,pt_at memA hw⟩) ?_
    refine t1 6 ?_
    refine ca hM1 ?_
    rintro _ _ ⟨o1,rfl,ho1,rfl⟩
    refine nl ?_
    refine te (fun w hw=>⟨pt_at memA hw,pt_at memA hw⟩) ?_
    refine t1 12 ?_
    refine cav (cap:=#[]) (vs:=[v2]) (sumW_tr v2 h2) ?_
    rintro _ _ ⟨rfl,rfl⟩
    refine nl ?_
    refine te (fun w hw=>⟨pt_at memA hw,pt_at memA hw⟩) ?_
    refine t1 13 ?_
    refine ca hM2 ?_
    rintro _ _ ⟨o2,rfl,ho2,rfl⟩
    refine nl ?_
    refine te (fun w hw=>⟨pt_at memA hw,pt_at memA hw⟩) ?_
    refine t1 14 ?_
    refine ca (hA o1 o2 ho1 ho2) ?_
    rintro _ _ ⟨o3,rfl,ho3,rfl⟩
    refine nl ?_
    refine te (fun w hw=>⟨pt_at memA hw,pt_at memA hw⟩) ?_
    refine t1 16 ?_
    refine srz ?_
    refine nl ?_
    refine te (fun w hw=>⟨pt_at memA hw,pt_at memA hw⟩) ?_
    refine t0 ?_
    repeat' first|refine xc ?_
    exact kb (c2,o3) ho3 _ _ (by (repeat (refine Sub.cons rfl (by first | rfl | go_num) ?_));exact Sub.nil) fitA
  ·refine al fun c2=>?_
   refine nl ?_
   refine te (fun w hw=>⟨pt_at memA hw,pt_at memA hw⟩) ?_
   refine t1 5 ?_
   refine cav (cap:=#[]) (vs:=[v4]) (sumW_tr v4 h4) ?_
   rintro _ _ ⟨rfl,rfl⟩
   refine nl ?_
   refine te (fun w hw=>⟨pt_at memA hw,pt_at memA hw⟩) ?_
   refine t1 6 ?_
   refine ca hM1 ?_
   rintro _ _ ⟨o1,rfl,ho1,rfl⟩
   refine nl ?_
   refine te (fun w hw=>⟨pt_at memA hw,pt_at memA hw⟩) ?_
   refine t1 12 ?_
   refine cav (cap:=#[]) (vs:=[v2]) (sumW_tr v2 h2) ?_
   rintro _ _ ⟨rfl,rfl⟩
   refine nl ?_
   refine te (fun w hw=>⟨pt_at memA hw,pt_at memA hw⟩) ?_
   refine t1 13 ?_
   refine ca hM2 ?_
   rintro _ _ ⟨o2,rfl,ho2,rfl⟩
   refine nl ?_
   refine te (fun w hw=>⟨pt_at memA hw,pt_at memA hw⟩) ?_
   refine t1 14 ?_
   refine ca (hA o1 o2 ho1 ho2) ?_
   rintro _ _ ⟨o3,rfl,ho3,rfl⟩
   refine nl ?_
   refine te (fun w hw=>⟨pt_at memA hw,pt_at memA hw⟩) ?_
   refine t1 16 ?_
   refine srz ?_
   refine nl ?_
   refine te (fun w hw=>⟨pt_at memA hw,pt_at memA hw⟩) ?_
   refine t0 ?_
   repeat' first|refine xc ?_
   exact kb (c2,o3) ho3 _ _ (by (repeat (refine Sub.cons rfl (by first | rfl | go_num) ?_));exact Sub.nil) fitA
end Go.Art
namespace Go.Art
open Go Go.RowKit
def adr (v:Value) (m:Nat):Addr:=(addrAt v 0).add m
theorem adr_add (v:Value) (m o:Nat):(adr v m).add o = adr v (m + o):=Deep.add_add _ _ _
def SlW (w:World) (v:Value) (n:Nat) (xs:List Value):Prop:=
 ∃ a cap,v = .slice a n cap∧n ≤ cap∧cap ≤ maxLen∧(0 < n→∃ x,a = some x)∧∀ i u,xs[i]? = some u→∃ x,a = some x∧w.cell? (x.add i) = some u
theorem SlW.cell {w:World} {v:Value} {n:Nat} {xs:List Value} (h:SlW w v n xs) {i:Nat} {u:Value} (hi:xs[i]? = some u):w.cell? (adr v i) = some u:=by
 obtain ⟨a,cap,rfl,_,_,_,hc⟩:=h
 obtain ⟨x,rfl,hx⟩:=hc i u hi
 show w.cell? ((x.add 0).add i) = _
 rw [Deep.add_add,Nat.zero_add];exact hx
theorem SlW.len {w:World} {v:Value} {n:Nat} {xs:List Value} (h:SlW w v n xs):n ≤ 9223372036854775807:=by
 obtain ⟨_,cap,_,h1,h2,_⟩:=h
 unfold maxLen at h2;omega
theorem add_block (x:Addr) (i:Nat):(x.add i).block = x.block:=by unfold Addr.add;split <;> rfl
def vwf (v:Value) (n:Nat) (xs:List Value):Ch where
 wr:=fun _=>False
 rd:=fun _=>False
 bd:=fun x=>xs ≠ []∧v.ownBlock = some x
 P:=fun w=>SlW w v n xs
 loc:=fun {w w'} h hb=>by
  obtain ⟨a,cap,rfl,h1,h2,h0,h3⟩:=h
  refine ⟨a,cap,rfl,h1,h2,h0,fun i u hi=>?_⟩
  obtain ⟨x,rfl,hx⟩:=h3 i u hi
  exact ⟨x,rfl,(World.cell?_of_block (by rw [add_block];exact hb _ (.inr (.inr ⟨by rintro rfl;simp at hi,rfl⟩)))).trans hx⟩
 lt:=fun {w b} h hb=>by
  rcases hb with hb | hb | ⟨h4,h5⟩
  ·exact hb.elim
  ·exact hb.elim
  ·obtain ⟨a,cap,rfl,h1,h2,h0,h3⟩:=h
   cases xs with
   | nil=>exact absurd rfl h4
   | cons u r=>
    obtain ⟨x,rfl,hx⟩:=h3 0 u rfl
    have:=World.block_lt_of_cell? w _ hx
    rw [add_block] at this
    simp only [Value.ownBlock,Option.some.injEq] at h5
    rw [← h5];exact this
instance (v:Value) (n:Nat) (xs:List Value):Lent (vwf v n xs):=⟨fun _=>⟨fun h=>h,fun h=>h⟩⟩
theorem has_vwf {F:List Ch} {v:Value} {n:Nat} {xs:List Value} (h:vwf v n xs ∈ F):Has F (vwf v n xs):=⟨fun _ hw=>hw.h _ h,fun _ h=>h,fun _ h=>h,fun _ hb=>⟨_,h,hb⟩⟩
theorem has_wf {A:List Ch} {w:World} {v:Value} {n:Nat} {xs:List Value} (h:vwf v n xs ∈ A) (hw:Sat A w):SlW w v n xs:=hw.h (vwf v n xs) h
theorem flat_row:∀ {rs:List (List Value)} {sz:Nat},(∀ r ∈ rs,r.length = sz)→∀ {i:Nat} {r:List Value},rs[i]? = some r→(rs.flatten.drop (sz * i)).take sz = r
 | [],_,_,i,r,h=>by simp at h
 | a :: rs,sz,hl,0,r,h=>by
  simp at h;subst h
  have:=hl a (by simp)
  simp [List.take_append,this,List.take_of_length_le]
 | a :: rs,sz,hl,i + 1,r,h=>by
  have ha:=hl a (by simp)
  have ih:=flat_row (rs:=rs) (sz:=sz) (fun r hr=>hl r (by simp [hr])) (i:=i) (r:=r) (by simpa using h)
  rw [List.flatten_cons,show sz * (i + 1) = a.length + sz * i by rw [ha,Nat.mul_succ];omega,List.drop_append,List.drop_eq_nil_of_le (by omega),List.nil_append,Nat.add_sub_cancel_left]
  exact ih
theorem flat_at {rs:List (List Value)} {sz i o:Nat} {r:List Value} {u:Value} (hl:∀ r ∈ rs,r.length = sz) (h:rs[i]? = some r) (ho:r[o]? = some u):rs.flatten[sz * i + o]? = some u:=by
 have h1:=flat_row hl h
 have h2:((rs.flatten.drop (sz * i)).take sz)[o]? = some u:=by rw [h1];exact ho
 rw [List.getElem?_take] at h2
 split at h2
 ·rwa [List.getElem?_drop] at h2
 ·cases h2
section
variable {P:Program} {E:Env P} {n:Sh} {X:Cx} {s:List K} {fr:Fr} {A A':List Ch} {ops:Array Oper} {rest:List Oper} {d m N sz by_:Nat} {ty t el:TypeId} {pos:String} {after:Array Edge} {v u z:Value} {x y:Operand} {xs vs:List Value} {dt:TypeDesc} {k1:IntKind} {w:World} {fs:Array Field} {f:Nat} {fld:Field}
theorem R_idxW {i:Int} (ht:lk E.und t = some (.slice el)) (he:lk E.inf el = some (z,sz,by_)) (hx:ev fr x = some v) (hy:ev fr y = some (.int k1 i)) (hS:SlW w v N xs) (h:0 ≤ i∧i < N):OpV P n fr (.indexAddr t x y) ty w (.pointer (some (adr v (sz * i.toNat)))) w:=⟨fun b hb _ _ _ _=>by
 obtain ⟨a,cap,rfl,h1,h2,h0,hc⟩:=hS
 obtain ⟨inf,hi,_,hsz,_⟩:=E.info he
 obtain ⟨ad,rfl⟩:=h0 (by omega)
 simp only [execOp,hb.ev hx,hb.ev hy]
 simp [Instr.indexAt,asIntOf,run_underlying (P:=P) (E.un ht) w,h,sizeOf,typeInfo,hi,hsz,adr,addrAt,Deep.add_add,Nat.mul_comm]⟩
theorem R_fldW (ht:lk E.und t = some (.struct fs)) (hf:fs[f]? = some fld) (he:lk E.inf fld.type = some (z,sz,by_)) (hsz:Nat.beq sz 0 = false) (hx:ev fr x = some (.pointer (some (adr v m)))):OpV P n fr (.fieldAddr t x f) ty w (.pointer (some (adr v (m + fld.offset)))) w:=⟨fun a ha _ _ _ _=>by
 obtain ⟨inf,hi,_,hs,_⟩:=E.info he
 have h0:¬ sz = 0:=nbeq_ne hsz
 simp only [execOp,ha.ev hx]
 simp [Instr.fieldAt,run_underlying (P:=P) (E.un ht) w,hf,Instr.sureAddr,fieldPlace,sizeOf,typeInfo,hi,hs,h0,adr_add]⟩
theorem R_loadW (ht:lk E.und t = some dt) (hg:aggB dt = true) (hi:lk E.inf t = some (z,sz,by_)) (hx:ev fr x = some (.pointer (some (adr v m)))) (hS:SlW w v N xs) (hv:(xs.drop m).take sz = vs) (hl:vs.length = sz):OpV P n fr (.load t x) ty w (.agg vs.toArray) w:=⟨fun a ha _ _ _ _=>by
 obtain ⟨inf,h1,_,h2,_⟩:=E.info hi
 have h3:=run_loadCells_list (P:=P) w (adr v m) vs (fun j u hm=>by
  rw [adr_add]
  refine hS.cell ?_
  rw [← hv,List.getElem?_take] at hm
  split at hm
  ·rw [List.getElem?_drop] at hm;simpa using hm
  ·cases hm)
 rw [hl] at h3
 simp only [execOp,ha.ev hx]
 simp [Instr.loadAt,Instr.sureAddr,loadVar,aggB_t (w:=w) ht hg,sizeOf,typeInfo,h1,h2,h3]⟩
end
end Go.Art
namespace Go.Art
open Go Go.Proofs Go.RowKit
def OwnV (w:World) (e:TypeId) (sz:Nat) (v:Value) (n:Nat) (xs:List Value):Prop:=
 (v = .slice none 0 0∧n = 0∧xs = []) ∨
 ∃ b cap cur,v = .slice (some ⟨b,0,none⟩) n cap∧w.heap[b]? = some (.cells cur e (0,0))∧n ≤ cap∧cap ≤ maxLen∧cur.size = cap * sz∧xs.length = n * sz∧cur.toList.take (n * sz) = xs
theorem OwnV.blt {w:World} {e:TypeId} {sz n:Nat} {v:Value} {xs:List Value} (h:OwnV w e sz v n xs) {b:Nat} (hb:v.ownBlock = some b):b < w.heap.size:=by
 rcases h with ⟨rfl,_⟩ | ⟨b',cap,cur,rfl,h2,_⟩
 ·cases hb
 ·cases hb;exact lt_of_heap h2
theorem OwnV.keep {w w':World} {e:TypeId} {sz n:Nat} {v:Value} {xs:List Value} (h:OwnV w e sz v n xs) (hb:∀ b,v.ownBlock = some b→w'.heap[b]? = w.heap[b]?):OwnV w' e sz v n xs:=by
 rcases h with h | ⟨b,cap,cur,rfl,h2,h3⟩
 ·exact .inl h
 ·exact .inr ⟨b,cap,cur,rfl,(hb b rfl).trans h2,h3⟩
theorem OwnV.one {w:World} {e:TypeId} {sz n:Nat} {v:Value} {xs:List Value} (h:OwnV w e sz v n xs):v.oneCell' = true:=by
 rcases h with ⟨rfl,_⟩ | ⟨_,_,_,rfl,_⟩ <;> rfl
theorem OwnV.slw {w:World} {e:TypeId} {sz n:Nat} {v:Value} {xs:List Value} (h:OwnV w e sz v n xs):SlW w v n xs:=by
 rcases h with ⟨rfl,rfl,rfl⟩ | ⟨b,cap,cur,rfl,hb,h2,h3,h4,h5,h6⟩
 ·exact ⟨none,0,rfl,Nat.le_refl _,by unfold maxLen;omega,fun h=>absurd h (Nat.lt_irrefl _),fun i u h=>by simp at h⟩
 ·refine ⟨some ⟨b,0,none⟩,cap,rfl,h2,h3,fun _=>⟨_,rfl⟩,fun i u hi=>⟨_,rfl,?_⟩⟩
  rw [Addr.add_lit,Nat.zero_add,cell_of_row w b i cur e (0,0) hb]
  rw [← h6,List.getElem?_take] at hi
  split at hi
  ·simpa using hi
  ·cases hi
def oww (e:TypeId) (sz:Nat) (v:Value) (n:Nat) (xs:List Value):Ch where
 wr:=fun x=>v.ownBlock = some x
 rd:=fun _=>False
 bd:=fun _=>False
 P:=fun w=>OwnV w e sz v n xs
 loc:=fun h hb=>h.keep fun b h=>hb b (.inl h)
 lt:=fun h hb=>by rcases hb with hb | hb | hb;exact h.blt hb;exact hb.elim;exact hb.elim
instance (e:TypeId) (sz:Nat) (v:Value) (n:Nat) (xs:List Value):NoB (oww e sz v n xs):=⟨fun _ h=>h⟩
theorem has_oww {F:List Ch} {e:TypeId} {sz:Nat} {v:Value} {n:Nat} {xs:List Value} (h:oww e sz v n xs ∈ F):Has F (vwf v n xs):=
 ⟨fun _ hw=>OwnV.slw (hw.h (oww e sz v n xs) h),fun _ h=>h,fun _ h=>h,fun b hb=>⟨_,h,by rcases hb with hb | hb | hb;exact hb.elim;exact hb.elim;exact .inl hb.2⟩⟩
theorem oww_nil (e:TypeId) (sz:Nat) (A:List Ch):Im A (oww e sz (.slice none 0 0) 0 [] :: A):=by
 have h0:∀ b,¬ (oww e sz (.slice none 0 0) 0 []).ft b:=by rintro b (h | h | h);cases h;exact h;exact h
 refine ⟨fun w hw=>Sat.cons.2 ⟨.inl ⟨rfl,rfl,rfl⟩,fun a _=>⟨fun b hb=>absurd (.inl hb) (h0 b),fun b _ hf=>h0 b hf⟩,hw⟩,fun b hb=>?_,fun b hb=>?_,fun b hb=>?_⟩
 ·obtain ⟨x,hx,hb⟩:=hb
  rcases List.mem_cons.1 hx with rfl | hx
  ·exact absurd (.inl hb) (h0 b)
  ·exact ⟨x,hx,hb⟩
 ·obtain ⟨x,hx,hb⟩:=hb
  rcases List.mem_cons.1 hx with rfl | hx
  ·exact absurd (.inr (.inl hb)) (h0 b)
  ·exact .inr ⟨x,hx,hb⟩
 ·obtain ⟨x,hx,hb⟩:=hb
  rcases List.mem_cons.1 hx with rfl | hx
  ·exact absurd hb (h0 b)
  ·exact ⟨x,hx,hb⟩
structure Wid (sz:Nat) (vs:List Value) (xs:List Value):Prop where
 eq:vs.flatMap (fun v=>v.cells.toList) = xs
 all:∀ v ∈ vs,v.cells.size = sz
theorem Wid.nil {sz:Nat}:Wid sz [] []:=⟨rfl,fun _ h=>nomatch h⟩
theorem Wid.agg {sz:Nat} {cs:List Value} {vs xs:List Value} (hs:cs.length = sz) (k:Wid sz vs xs):Wid sz (.agg cs.toArray :: vs) (cs ++ xs):=⟨by rw [List.flatMap_cons,k.eq];rfl,fun v hv=>by
 rcases List.mem_cons.1 hv with rfl | hv
 ·exact hs
 ·exact k.all v hv⟩
theorem Wid.len {sz:Nat} {vs xs:List Value} (h:Wid sz vs xs):xs.length = vs.length * sz:=by
 obtain ⟨h1,h2⟩:=h
 subst h1
 induction vs with
 | nil=>simp
 | cons v r ih=>rw [List.flatMap_cons,List.length_append,ih (fun u hu=>h2 u (by simp [hu])),List.length_cons,Nat.succ_mul,Array.length_toList,h2 v (by simp)];omega
theorem fill_wide {sz:Nat}:∀ (vs:List Value) (j:Nat) (cells:Array Value),(∀ v ∈ vs,v.cells.size = sz)→(j + vs.length) * sz ≤ cells.size →
  Instr.fill (fun i=>some (i * sz,sz)) cells (idxP j vs) = some (cells.toList.take (j * sz) ++ vs.flatMap (fun v=>v.cells.toList) ++ cells.toList.drop ((j + vs.length) * sz)).toArray
 | [],j,cells,_,_=>by simp [idxP,Instr.fill]
 | v :: r,j,cells,h1,hl=>by
  have hv:=h1 v (by simp)
  have hle:(j + (r.length + 1)) * sz = j * sz + sz + r.length * sz:=by rw [Nat.add_mul,Nat.succ_mul];omega
  simp only [List.length_cons] at hl
  rw [hle] at hl
  have hb:¬ (j * sz + sz > cells.size):=by omega
  simp only [idxP,Instr.fill,hv]
  simp only [ne_eq,not_true_eq_false,decide_false,Bool.false_or,decide_eq_true_eq,hb,if_false]
  have hcl:v.cells.toList.length = sz:=by rw [Array.length_toList];exact hv
  have e:(v.cells.zipIdx.foldl (fun cs (x:Value × Nat)=>cs.setIfInBounds (j * sz + x.2) x.1) cells) = (cells.toList.take (j * sz) ++ v.cells.toList ++ cells.toList.drop (j * sz + sz)).toArray:=by
   have:=foldl_set v.cells.toList (j * sz) 0 cells (by rw [hcl];omega)
   simp only [Nat.add_zero] at this
   rw [hcl] at this
   rw [← Array.foldl_toList,Array.toList_zipIdx]
   exact this
  show Instr.fill _ (v.cells.zipIdx.foldl (fun cs (x:Value × Nat)=>cs.setIfInBounds (j * sz + x.2) x.1) cells) _ = _
  have hct:cells.toList.length = cells.size:=Array.length_toList
  have hrec:=fill_wide r (j + 1) (cells.toList.take (j * sz) ++ v.cells.toList ++ cells.toList.drop (j * sz + sz)).toArray (fun u hu=>h1 u (by simp [hu])) (by
   have:(j + 1 + r.length) * sz = j * sz + sz + r.length * sz:=by rw [Nat.add_mul,Nat.succ_mul]
   rw [this,List.size_toArray]
   simp only [List.length_append,List.length_take,List.length_drop,hcl,hct]
   omega)
  rw [e,hrec]
  congr 2
  have e1:(j + 1) * sz = j * sz + sz:=Nat.succ_mul _ _
  have e2:(j + 1 + r.length) * sz = j * sz + sz + r.length * sz:=by rw [Nat.add_mul,Nat.succ_mul]
  have hl1:(cells.toList.take (j * sz) ++ v.cells.toList).length = j * sz + sz:=by simp only [List.length_append,List.length_take,hcl,hct];omega
  rw [List.flatMap_cons,List.length_cons,hle,e1,e2]
  simp only [List.toList_toArray]
  rw [List.take_left' hl1,List.drop_append,List.drop_eq_nil_of_le (by omega),List.nil_append,hl1,List.drop_drop,Nat.add_sub_cancel_left]
  simp only [List.append_assoc]
section
variable {P:Program} {E:Env P} {n:Sh} {X:Cx} {s:List K} {fr:Fr} {A A':List Ch} {ops:Array Oper} {rest:List Oper} {d m N M sz by_:Nat} {ty t el e:TypeId} {pos:String} {after:Array Edge} {v u z:Value} {x y:Operand} {xs ys vs:List Value} {dt:TypeDesc} {k1:IntKind} {w:World}
theorem has_len {F:List Ch} (h:Has F (vwf v N xs)) (w:World) (hw:Sat F w):N ≤ 9223372036854775807:=(h.P w hw).len
theorem lnw (k:TO E n X s ops rest ((d,I N) :: fr) A) (hx:ev fr x = some v:=by rfl) (hm:Has A (vwf v N xs):=by exact hasA) (ht:lk E.und t = some (.slice el):=by rfl) (hd:Nat.blt d n.n = true:=by rfl) :
  TO E n X s ops (⟨some d,.call ⟨.builtin .len,#[x],#[t]⟩,ty,pos,after,none⟩ :: rest) fr A:=TO.val (v:=I N) (fun w h=>⟨fun a ha _ _ _ _=>by
 obtain ⟨_,cap,rfl,_⟩:=(hm.P w h:SlW w v N xs)
 simp only [execOp,resolve]
 simp [ha.ev hx,invoke,builtin,Builtin.len_,run_underlying (P:=P) (E.un ht) w,goInt]⟩) k hd
theorem ixws {i:Int} (k:TO E n X s ops rest ((d,.pointer (some (adr v (sz * i.toNat)))) :: fr) A) (hx:ev fr x = some v:=by rfl) (hy:ev fr y = some (.int k1 i):=by rfl) (hm:Has A (vwf v N xs):=by exact hasA) (hb:0 ≤ i∧i < N:=by omega)
  (ht:lk E.und t = some (.slice el):=by rfl) (he:lk E.inf el = some (z,sz,by_):=by rfl) (hd:Nat.blt d n.n = true:=by rfl):TO E n X s ops (⟨some d,.indexAddr t x y,ty,pos,after,none⟩ :: rest) fr A:=TO.val (fun w h=>R_idxW ht he hx hy (hm.P w h) hb) k hd
theorem ldaw (hv:(xs.drop m).take sz = vs) (k:TO E n X s ops rest ((d,.agg vs.toArray) :: fr) A) (hx:ev fr x = some (.pointer (some (adr v m))):=by rfl) (hm:Has A (vwf v N xs):=by exact hasA) (ht:lk E.und t = some dt:=by rfl) (hg:aggB dt = true:=by rfl) (hi:lk E.inf t = some (z,sz,by_):=by rfl) (hl:vs.length = sz:=by rfl) (hd:Nat.blt d n.n = true:=by rfl) :
  TO E n X s ops (⟨some d,.load t x,ty,pos,after,none⟩ :: rest) fr A:=TO.val (fun w h=>R_loadW ht hg hi hx (hm.P w h) hv hl) k hd
theorem slws {parts:List (Nat × Operand)} (k:∀ g,TO E n X s ops rest ((d,.slice (some ⟨g,0,none⟩) m m) :: fr) (oww e sz (.slice (some ⟨g,0,none⟩) m m) m xs :: A)) (hp:parts = idxP 0 (parts.map (·.2)):=by rfl) (hv:evs fr (parts.map (·.2)) = some vs:=by rfl)
  (hw:Wid sz vs xs:=by (repeat (first | exact Wid.nil | (apply Wid.agg;focus rfl)));first | done | fail) (hk:vs.length = m:=by rfl) (hk0:Nat.blt 0 (m * sz) = true:=by rfl) (hkm:Nat.ble (m * sz) 16777216 = true:=by rfl) (ht:lk E.und t = some (.slice e):=by rfl) (he:lk E.inf e = some (z,sz,by_):=by rfl) (hd:Nat.blt d n.n = true:=by rfl) :
  TO E n X s ops (⟨some d,.buildSlice t m parts.toArray,ty,pos,after,none⟩ :: rest) fr A:=⟨fun w hw'=>by
 subst hk
 obtain ⟨inf,hi,hiz,his,_⟩:=E.info he
 have hkm':=Nat.le_of_ble_eq_true hkm
 have hk0':=nblt_lt hk0
 have hwl:=hw.len
 refine SO_v hd (w':=w.alloc (.cells xs.toArray e)) ⟨fun a ha' _ _ _ _=>?_⟩ ((k w.heap.size).run _ (hw'.new (Upd.alloc w _) (.inr ⟨w.heap.size,vs.length,xs.toArray,rfl,heap_alloc_new w _,Nat.le_refl _,?_,by simp [hwl],hwl,by simp [← hwl]⟩) (by rintro b (h | h | h);(have h:some w.heap.size = some b:=h);cases h;exact Nat.le_refl _;exact h.elim;exact h.elim) (fun _ h=>h)))
 ·have hmap:(parts.map fun (x:Nat × Operand)=>(x.1,a.eval x.2)) = idxP 0 vs:=by
   have hev:=ha'.evs hv
   have gen:∀ (l:List Operand) (i:Nat),(idxP i l).map (fun (x:Nat × Operand)=>(x.1,a.eval x.2)) = idxP i (l.map a.eval):=by
    intro l
    induction l with
    | nil=>intro i;rfl
    | cons o r ih=>intro i;simp [idxP,ih]
   rw [hp,gen,hev]
  have hfill:=fill_wide (sz:=sz) vs 0 ((Array.range (vs.length * sz)).map (z.cells[· % z.cells.size]!)) hw.all (by simp)
  rw [hw.eq] at hfill
  have hres:((List.take (0 * sz) ((Array.range (vs.length * sz)).map (z.cells[· % z.cells.size]!)).toList ++ xs ++ List.drop ((0 + vs.length) * sz) ((Array.range (vs.length * sz)).map (z.cells[· % z.cells.size]!)).toList).toArray) = xs.toArray:=by
   rw [List.drop_eq_nil_of_le (by simp)];simp
  rw [hres] at hfill
  have hn0:¬ vs.length * sz = 0:=by omega
  have hn1:¬ 2 ^ 24 < vs.length * sz:=by omega
  have hn2:¬ (vs.length = 0∨sz = 0):=fun h=>hn0 (by rcases h with h | h <;> rw [h] <;> simp)
  have hgo:(Instr.buildSlice t vs.length ((parts.toArray.map fun (x:Nat × Operand)=>(x.1,a.eval x.2)))).run P w = .ok (.slice (some ⟨w.heap.size,0,none⟩) vs.length vs.length) (w.alloc (.cells xs.toArray e)):=by
   have hl:((parts.toArray.map fun (x:Nat × Operand)=>(x.1,a.eval x.2))).toList = idxP 0 vs:=by simp [hmap]
   simp only [Instr.buildSlice,hl]
   simp [run_underlying (P:=P) (E.un ht) w,sizeOf,typeInfo,hi,his,zeroValue,hiz,hn0,hn1,hn2,hfill,newRow,newObj,Sem.run]
  simp only [execOp]
  show Sem.run P (do let v ← Instr.buildSlice t vs.length ((parts.toArray.map fun (x:Nat × Operand)=>(x.1,a.eval x.2)));pure (Next.value v)) w = _
  rw [List.map_toArray] at hgo
  simp [hgo]
 ·unfold maxLen
  have:vs.length ≤ vs.length * sz:=Nat.le_mul_of_pos_right _ (Nat.pos_of_ne_zero fun h=>by rw [h] at hk0';simp at hk0')
  omega⟩
theorem run_appendV (t':TypeId) (w:World) (ht:lk E.und t = some (.slice e)) (he:lk E.inf e = some (z,sz,by_)) (hz:z.cells.size = sz) (hown:OwnV w e sz v N xs) (hu:SlW w u M ys) (hys:ys.length = M * sz) (h1:∀ c ∈ ys,c.oneCell' = true) (hM:0 < M)
  (hby:(N + M) * by_ ≤ 140737488355328) (h63:N + M ≤ 4611686018427387903) :
  ∃ v' w',(Builtin.append_ #[t,t] t' #[v,u]).run P w = .ok v' w'∧OwnV w' e sz v' (N + M) (xs ++ ys)∧Upd w w' v.ownBlock.toList∧∀ b,v'.ownBlock = some b→v.ownBlock = some b∨w.heap.size ≤ b:=by
 obtain ⟨inf,hi,hiz,his,hib⟩:=E.info he
 have ht':=E.un ht
 obtain ⟨a,c,rfl,hc1,hc2,h0,hcell⟩:=hu
 obtain ⟨ad,rfl⟩:=h0 hM
 have hnews:∀ j c,ys[j]? = some c→w.cell? (ad.add j) = some c:=fun j c hj=>by
  obtain ⟨y,hy,hc⟩:=hcell j c hj
  cases hy;exact hc
 have hl:ys.length = M * inf.size:=by rw [his,hys]
 subst hib
 have hupd:∀ (o:Obj) (S:List Nat),Upd w (w.drew.alloc o) S:=fun o S=>((Upd.drew w).trans (Upd.alloc w.drew o)).weak (by simp)
 have grow:∀ (old:Nat),xs.length = N * sz→OwnV (w.drew.alloc (.cells (xs.toArray ++ ys.toArray ++ Builtin.zeroCells z.cells (grownCap w (N + M) old e - (N + M))) e)) e sz
   (.slice (some ⟨w.heap.size,0,none⟩) (N + M) (grownCap w (N + M) old e)) (N + M) (xs ++ ys):=by
  intro old hxs
  have hge:=grownCap_ge w (N + M) old e
  obtain ⟨q,hq⟩:=Nat.exists_eq_add_of_le hge
  refine .inr ⟨w.heap.size,grownCap w (N + M) old e,_,rfl,heap_alloc_new w.drew _,hge,grownCap_le_maxLen w _ old e (by unfold maxLen;omega),?_,?_,?_⟩
  ·simp only [Array.size_append,List.size_toArray,size_zeroCells,hz,hxs,hys,hq,Nat.add_sub_cancel_left,Nat.add_mul]
  ·rw [List.length_append,hxs,hys,Nat.add_mul]
  ·simp only [Array.toList_append]
   exact List.take_left' (by rw [List.length_append,hxs,hys,Nat.add_mul])
 rcases hown with ⟨rfl,rfl,rfl⟩ | ⟨b,cap,cur,rfl,hb,h2,h3,h4,h5,h6⟩
 ·have hr:=run_append_nil (P:=P) w t t' e inf z ht' hi hiz ad M c ys hl hnews hM (by omega) (by rw [Nat.zero_add] at hby;omega)
  have hg:=grow 0 (by simp)
  simp only [Nat.zero_add,List.nil_append,Array.empty_append] at hg ⊢
  exact ⟨_,_,hr,hg,hupd _ _,fun b' hb'=>by cases hb';exact .inr (Nat.le_refl _)⟩
 ·by_cases hroom:N + M ≤ cap
  ·have hle:(N + M) * sz ≤ cap * sz:=Nat.mul_le_mul_right sz hroom
   rw [Nat.add_mul] at hle
   have hr:=run_append_room (P:=P) w t t' e inf ht' hi b N cap cur hb ad M c ys hl hnews h1 hroom (by rw [his,h4,hys];exact hle)
   rw [his] at hr
   have hct:cur.toList.length = cur.size:=Array.length_toList
   refine ⟨_,_,hr,.inr ⟨b,cap,_,rfl,setRow_heap w b cur _ e _ hb,hroom,h3,?_,?_,?_⟩,Upd.setRow w b _,fun _ h=>.inl h⟩
   ·simp only [List.size_toArray,List.length_append,List.length_take,List.length_drop,hct,hys];omega
   ·rw [List.length_append,h5,hys,Nat.add_mul]
   ·rw [h6]
    exact List.take_left' (by rw [List.length_append,h5,hys,Nat.add_mul])
  ·have hc:∀ j c,xs[j]? = some c→w.cell? ((⟨b,0,none⟩ : Addr).add j) = some c:=fun j c hj=>by
    rw [Addr.add_lit,Nat.zero_add,cell_of_row w b j cur e (0,0) hb]
    rw [← h6,List.getElem?_take] at hj
    split at hj
    ·simpa using hj
    ·cases hj
   have hr:=run_append_grow (P:=P) w t t' e inf z ht' hi hiz ⟨b,0,none⟩ N cap xs (by rw [his];exact h5) hc ad M c ys hl hnews (by omega) (by omega) (growslice_fits (by omega) hby)
   exact ⟨_,_,hr,grow cap h5,hupd _ _,fun b' hb'=>by cases hb';exact .inr (Nat.le_refl _)⟩
theorem apw (hM:0 < M) (hys:ys.length = M * sz) (h1:∀ c ∈ ys,c.oneCell' = true) (k:∀ v',v'.oneCell' = true→TO E n X s ops rest ((d,v') :: fr) (oww e sz v' (N + M) (xs ++ ys) :: A')) (hx:ev fr x = some v:=by rfl) (hy:ev fr y = some u:=by rfl) (hm:Tk (oww e sz v N xs) A A':=by exact tkA) (hu:Has A' (vwf u M ys):=by exact hasA)
  (ht:lk E.und t = some (.slice e):=by rfl) (he:lk E.inf e = some (z,sz,by_):=by rfl) (hz:z.cells.size = sz:=by rfl) (hby:(N + M) * by_ ≤ 140737488355328:=by omega) (h63:N + M ≤ 4611686018427387903:=by omega) (hd:Nat.blt d n.n = true:=by rfl) :
  TO E n X s ops (⟨some d,.call ⟨.builtin .append,#[x,y],#[t,t]⟩,ty,pos,after,none⟩ :: rest) fr A:=⟨fun w hw=>by
 have h2:=hw.im hm
 have h3:OwnV w e sz v N xs:=h2.mem (List.Mem.head _)
 have h4:SlW w u M ys:=hu.P w (Sat.cons.1 h2.sat).2.2
 obtain ⟨v',w',hr,hO,hU,hW⟩:=run_appendV (P:=P) ty w ht he hz h3 h4 hys h1 hM hby h63
 refine SO_v hd (w':=w') (v:=v') ⟨fun a ha' _ _ _ _=>?_⟩ ((k v' hO.one).run w' (h2.set hU (fun b hb=>.inl (by show v.ownBlock = some b;simpa using hb)) hO ?_ (fun _ h=>h)))
 ·simp only [execOp,resolve]
  simp [ha'.ev hx,ha'.ev hy,invoke,builtin,hr]
 ·rintro b (hb' | hb' | hb')
  ·exact hW b hb'
  ·exact hb'.elim
  ·exact hb'.elim⟩
theorem wide_take {c vs:List Value} {m sz L:Nat} (hl:vs.length = sz) (hm:m + sz ≤ L) (hL:L ≤ c.length):(c.take m ++ vs ++ c.drop (m + sz)).take L = (c.take L).take m ++ vs ++ (c.take L).drop (m + sz):=by
 rw [List.take_append,List.take_of_length_le (by simp;omega),List.take_take,Nat.min_eq_left (by omega),List.drop_take]
 congr 2
 simp;omega
theorem sow (hmN:m + sz ≤ N * sz) (k:TO E n X s ops rest fr (oww e sz v N (xs.take m ++ vs ++ xs.drop (m + sz)) :: A')) (ha:ev fr x = some (.pointer (some (adr v m))):=by rfl) (hm:Tk (oww e sz v N xs) A A':=by exact tkA) (hx:ev fr y = some (.agg vs.toArray):=by rfl) (hi:lk E.inf t = some (z,sz,by_):=by rfl) (hl:vs.length = sz:=by rfl) (hs0:Nat.blt 0 sz = true:=by rfl)
  (h1:∀ v ∈ vs,v.oneCell' = true:=by simp;first | done | rfl | assumption):TO E n X s ops (⟨none,.store t x y,ty,pos,after,none⟩ :: rest) fr A:=⟨fun w hw=>by
 have hw2:=hw.im hm
 have hs1:=nblt_lt hs0
 have hO:OwnV w e sz v N xs:=hw2.mem (List.Mem.head _)
 rcases hO with ⟨_,rfl,_⟩ | ⟨b,cap,cur,rfl,hb,g2,g3,g4,g5,g6⟩
 ·rw [Nat.zero_mul] at hmN;omega
 ·have hA:adr (.slice (some ⟨b,0,none⟩) N cap) m = ⟨b,m,none⟩:=by simp [adr,addrAt,Addr.add_lit]
  rw [hA] at ha
  have hle:N * sz ≤ cap * sz:=Nat.mul_le_mul_right sz g2
  have hct:cur.toList.length = cur.size:=Array.length_toList
  refine SO_storeA (cs:=cur.toList) (T:=e) hi ha hx hl h1 hb (by omega) fun w' hU hH=>k.run w' (hw2.set hU (fun y hy=>.inl (by show some b = some y;rw [List.mem_singleton.1 hy])) (.inr ⟨b,cap,_,rfl,hH,g2,g3,?_,?_,?_⟩) (by rintro y (h | h | h);exact .inl h;exact h.elim;exact h.elim) (fun _ h=>h))
  ·simp only [List.size_toArray,List.length_append,List.length_take,List.length_drop,hct,hl];omega
  ·simp only [List.length_append,List.length_take,List.length_drop,hl,g5];omega
  ·rw [← g6]
   exact wide_take hl hmN (by omega)⟩
theorem madeW (z:Array Value) (n:Nat):(madeCells z (n * z.size)).toList = (List.replicate n z.toList).flatten:=by
 have hlen:((List.replicate n z.toList).flatten).length = n * z.size:=by simp
 refine List.ext_getElem (by rw [hlen];simp [size_madeCells]) fun i h1 h2=>?_
 have h3:i < n * z.size:=by rwa [hlen] at h2
 have hz:0 < z.size:=Nat.pos_of_ne_zero fun h=>by rw [h] at h3;simp at h3
 have hdiv:i / z.size < n:=(Nat.div_lt_iff_lt_mul hz).2 h3
 have hmod:=Nat.mod_lt i hz
 have h4:=flat_at (rs:=List.replicate n z.toList) (sz:=z.size) (i:=i / z.size) (o:=i % z.size) (r:=z.toList) (u:=z[i % z.size]) (fun r hr=>by rw [List.eq_of_mem_replicate hr];simp) (by rw [List.getElem?_replicate,if_pos hdiv]) (by simp [hmod])
 rw [Nat.div_add_mod,List.getElem?_eq_getElem h2] at h4
 rw [Option.some.inj h4]
 simp [madeCells,hmod]
theorem mkw {c:Int} (k:∀ v',v'.oneCell' = true→TO E n X s ops rest ((d,v') :: fr) (oww e sz v' c.toNat (List.replicate c.toNat z.cells.toList).flatten :: A)) (hx:ev fr x = some (.int k1 c):=by rfl) (hy:ev fr y = some (.int k1 c):=by rfl) (ht:lk E.und t = some (.slice e):=by rfl) (he:lk E.inf e = some (z,sz,by_):=by rfl) (hz:z.cells.size = sz:=by rfl)
  (h0:0 ≤ c:=by omega) (hby:by_ * c.toNat ≤ 281474976710656:=by omega) (h63:c ≤ 4611686018427387903:=by omega) (hd:Nat.blt d n.n = true:=by rfl) :
  TO E n X s ops (⟨some d,.makeSlice t x y,ty,pos,after,none⟩ :: rest) fr A:=⟨fun w hw=>by
 obtain ⟨inf,hi,hiz,his,hib⟩:=E.info he
 have hm:c = ((c.toNat:Nat):Int):=by omega
 obtain ⟨w',hr,hown,hg⟩:=run_make_full (P:=P) w 0 t e inf z sz (E.un ht) hi hiz his k1 k1 c.toNat (by rw [hib];exact hby) (by unfold maxLen;omega) (Nat.zero_le _)
 have hU:Ext w w':=⟨hg.os,hg.tape,hg.output,hg.size,fun k hk _=>hg.block k hk (by simp)⟩
 subst hz
 rw [madeW] at hown
 refine SO_v hd (w':=w') ⟨fun a ha' _ _ _ _=>?_⟩ ((k _ rfl).run _ (hw.new hU (c:=oww e z.cells.size (.slice (some ⟨w.heap.size,0,none⟩) c.toNat c.toNat) c.toNat _) ?_ (by rintro b (h | h | h);(have h:some w.heap.size = some b:=h);cases h;exact Nat.le_refl _;exact h.elim;exact h.elim) (fun _ h=>h)))
 ·rw [← hm] at hr
  simp only [execOp,ha'.ev hx,ha'.ev hy]
  simp [hr]
 ·rcases hown.2 with ⟨h1,_⟩ | ⟨g,cap,cur,h1,_,h2,h3,h4,h5,h6⟩
  ·cases h1
  ·simp only [Value.slice.injEq,Option.some.injEq,Addr.mk.injEq,true_and,and_true] at h1
   obtain ⟨rfl,rfl⟩:=h1
   exact .inr ⟨_,c.toNat,cur,rfl,h2,Nat.le_refl _,h4,h5,by simp,by simpa using h6⟩⟩
end
end Go.Art
namespace Go.Art
open Go Go.Proofs Go.RowKit
section
variable {P:Program} {E:Env P} {n:Sh} {X:Cx} {s:List K} {fr:Fr} {A A' B F D G:List Ch} {ops:Array Oper} {rest l:List Oper} {d:Nat} {o:Op} {ty t t':TypeId} {pos:String} {after:Array Edge} {v u:Value} {w:World} {Q0:Exit→Act→World→Prop}
structure FnD (P:Program) (f:FuncId) (args:List Value) (w:World) (R:Value→World→Prop):Prop where
 can:Callable P f
 calls:∀ u,CallsDIn (FF none) 0 P f args.toArray u w fun e u' w'=>u' = u∧∃ v,e = .returned v∧R v w'
theorem FnD.enter {f:FuncId} {fn:Func} {c:Code} {args:List Value} {R:Value→World→Prop} (E:Env P) (n:Nat) (hf:P.funcs[f]? = some fn) (hnm:(fn.name == "runtime.NumGoroutine") = false) (hb:fn.body = some c)
  (hn:fn.ntmps = n) (hl:Nat.ble args.length n = true) (h:SC E ⟨n,[],none⟩ (bodyPost P fn (RetP R)) [] c (argFr args 0) w):FnD P f args w R:=by
 refine ⟨⟨fn,hf,hnm,by simp [hb]⟩,fun u=>callsDIn_of_wp hf hb trivial ?_⟩
 subst hn
 have hl':args.length ≤ fn.ntmps:=Nat.le_of_ble_eq_true hl
 exact h.run _ ⟨by simp;omega,rfl,argFr_slot args fn.ntmps⟩
structure TrD (P:Program) (f:FuncId) (args:List Value) (pre A:List Ch) (R:Value→List Ch→Prop):Prop where
 run:∀ w,Sat (pre ++ A) w→FnD P f args w (PR w A R)
 lent:∀ c ∈ pre,∀ b,¬ c.wr b∧¬ c.rd b
theorem St.startD {X:Cx} {pre:List Ch} {w:World} (hw:Sat (pre ++ X.A0) w) (hx:X.w0 = w) (hp:∀ c ∈ pre,∀ b,¬ c.wr b∧¬ c.rd b):St X (pre ++ X.A0) w:=by
 subst hx
 refine ⟨hw,(Mv.refl X.w0 X.A0).trans ⟨rfl,rfl,rfl,Nat.le_refl _,fun _ _ _=>rfl,fun b hb=>?_,fun b hb=>?_⟩⟩
 ·rcases wrs_app.1 hb with ⟨c,hc,h1⟩ | h1
  ·exact absurd h1 (hp c hc b).1
  ·exact .inl h1
 ·rcases rds_app.1 hb with ⟨c,hc,h1⟩ | h1
  ·exact absurd h1 (hp c hc b).2
  ·exact .inr (.inl h1)
theorem TrD.enter {f:FuncId} {fn:Func} {c:Code} {args:List Value} {pre A:List Ch} {R:Value→List Ch→Prop} (E:Env P) (n:Nat) (hf:P.funcs[f]? = some fn) (hnm:(fn.name == "runtime.NumGoroutine") = false) (hb:fn.body = some c)
  (hn:fn.ntmps = n) (hl:Nat.ble args.length n = true) (hp:∀ c ∈ pre,∀ b,¬ c.wr b∧¬ c.rd b) (h:∀ w0,TC E ⟨n,[],none⟩ ⟨bodyPost P fn (RetP (PR w0 A R)),w0,A⟩ [] c (argFr args 0) (pre ++ A)):TrD P f args pre A R:=
 ⟨fun w hw=>FnD.enter E n hf hnm hb hn hl ((h w).run w (St.startD (X:=⟨_,w,A⟩) hw rfl hp)),hp⟩
abbrev DP (P:Program) (fn:Func) (w0:World) (A:List Ch) (R:Value→List Ch→Prop):Exit→Act→World→Prop:=bodyPostDIn (FF none) 0 P fn (RetP (PR w0 A R))
theorem Tr.enterD {f:FuncId} {fn:Func} {c:Code} {args:List Value} {pre A:List Ch} {R:Value→List Ch→Prop} (E:Env P) (n:Nat) (hf:P.funcs[f]? = some fn) (hnm:(fn.name == "runtime.NumGoroutine") = false) (hb:fn.body = some c)
  (hn:fn.ntmps = n) (hl:Nat.ble args.length n = true) (hp:∀ c ∈ pre,∀ b,¬ c.wr b∧¬ c.rd b) (h:∀ w0,TC E ⟨n,[],none⟩ ⟨DP P fn w0 A R,w0,A⟩ [] c (argFr args 0) (pre ++ A)):Tr P f args pre A R:=by
 refine ⟨fun w hw=>⟨⟨fn,hf,hnm,by simp [hb]⟩,calls_of_FF (r:=none) (k:=0) (callsIn_of_wp_defers hf hb trivial ?_)⟩,hp⟩
 have h1:=(h w).run w (St.startD (X:=⟨_,w,A⟩) hw rfl hp)
 subst hn
 have hl':args.length ≤ fn.ntmps:=Nat.le_of_ble_eq_true hl
 exact h1.run _ ⟨by simp;omega,rfl,argFr_slot args fn.ntmps⟩
theorem run_resolveF {f:FuncId} {a:Act} {g:Operand} {cap:Array Value} {xs:List Operand} {ats:Array TypeId} {vs:List Value} (hg:a.eval g = .func (.func f) #[] cap) (hv:xs.map a.eval = vs) :
  (resolve a.eval ⟨.value g,xs.toArray,ats⟩ ty).run P w = .ok { target:=.fn (.func f) cap,args:=vs.toArray } w:=by
 have h2:(Array.map a.eval xs.toArray) = vs.toArray:=by simp [hv]
 simp only [resolve,h2,hg,Deferred.ofValue]
 simp
theorem SO_defer {m:Nat} {ds:List Deferred} {f:FuncId} {g:Operand} {cap:Array Value} {xs:List Operand} {ats:Array TypeId} {vs:List Value} (hg:ev fr g = some (.func (.func f) #[] cap)) (hv:evs fr xs = some vs)
  (h:SO E ⟨m,{ target:=.fn (.func f) cap,args:=vs.toArray } :: ds,none⟩ Q0 s ops rest fr w):SO E ⟨m,ds,none⟩ Q0 s ops (⟨none,.defer ⟨.value g,xs.toArray,ats⟩,ty,pos,after,none⟩ :: rest) fr w:=⟨fun a ha=>
 wpListIn_plain rfl fun K hK=>⟨fun _ _=>trivial,by
  have h1:=run_resolveF (P:=P) (w:=w) (ats:=ats) (ty:=ty) (ha.ev hg) (ha.evs hv)
  have h2:(execOp a.eval ⟨none,.defer ⟨.value g,xs.toArray,ats⟩,ty,pos,after,none⟩).run P w = .ok (.defer { target:=.fn (.func f) cap,args:=vs.toArray }) w:=by
   simp only [execOp]
   simp only [Sem.run_bind,h1,Result.andThen_ok]
   rfl
  have h3:(Oper.semAt (FF none).round a.eval ⟨none,.defer ⟨.value g,xs.toArray,ats⟩,ty,pos,after,none⟩).run P w = .ok (.defer { target:=.fn (.func f) cap,args:=vs.toArray }) w:=h2
  rw [h3]
  simp only [Oper.uponIn]
  exact hK _ _ (h.run _ ⟨ha.size,by show _ :: a.defers = _;rw [ha.defers],ha.slot⟩)⟩⟩
theorem df {m:Nat} {ds:List Deferred} {f:FuncId} {g:Operand} {cap:Array Value} {xs:List Operand} {ats:Array TypeId} {vs:List Value} (k:TO E ⟨m,{ target:=.fn (.func f) cap,args:=vs.toArray } :: ds,none⟩ X s ops rest fr A) (hg:ev fr g = some (.func (.func f) #[] cap):=by rfl) (hv:evs fr xs = some vs:=by rfl) :
  TO E ⟨m,ds,none⟩ X s ops (⟨none,.defer ⟨.value g,xs.toArray,ats⟩,ty,pos,after,none⟩ :: rest) fr A:=⟨fun w hw=>SO_defer hg hv (k.run w hw)⟩
theorem TrD.at {f:FuncId} {vs:List Value} {pre:List Ch} {R:Value→List Ch→Prop} {w:World} (hf:TrD P f vs pre B R) (hs:Fit A B F) (hp:∀ c ∈ pre,Has F c) (hw:St X A w):FnD P f vs w fun v w'=>∃ D,R v D∧St X (D ++ F) w':=by
 have h1:=hw.im hs
 have h2:=hf.run w (lend h1.sat hp)
 refine ⟨h2.can,fun u=>?_⟩
 obtain ⟨g1,g2⟩:=h2.calls u
 refine ⟨g1,fun c cs hc hr=>?_⟩
 obtain ⟨e,u',w',fr,⟨q1,v,q2,D,hR,hS,hM,hB⟩,q3⟩:=g2 c cs hc hr
 exact ⟨e,u',w',fr,⟨q1,v,q2,D,hR,h1.step hM hS hB⟩,q3⟩
theorem rD {m:Nat} {ds:List Deferred} {f:FuncId} {fn:Func} {vs:List Value} {cap:Array Value} {pre:List Ch} {w0:World} {A0:List Ch} {R R':Value→List Ch→Prop} (hf:TrD P f (vs ++ cap.toList) pre B R') (k:∀ v D,R' v D→TX E ⟨m,ds,none⟩ ⟨DP P fn w0 A0 R,w0,A0⟩ [] .ret fr (D ++ F)) (hs:Fit A B F:=by exact fitA)
  (hp:∀ c ∈ pre,Has F c:=by (repeat (first | exact has0 | refine has1 hasA ?_));first | done | fail):TX E ⟨m,{ target:=.fn (.func f) cap,args:=vs.toArray } :: ds,none⟩ ⟨DP P fn w0 A0 R,w0,A0⟩ [] .ret fr A:=⟨fun w hw=>⟨fun a ha=>by
 show LeavesIn (FF none) 0 P fn a.tmps (RetP (PR w0 A0 R)) a.defers .returning w
 rw [ha.defers]
 have h1:=hf.at hs hp hw
 have h2:=run_callFunc_fn h1.can (vs ++ cap.toList).toArray w
 have h3:vs.toArray ++ cap = (vs ++ cap.toList).toArray:=by simp
 unfold LeavesIn
 refine ⟨by simp,fun h=>(by cases h),.func f,cap,f,(vs ++ cap.toList).toArray,rfl,?_,fun _ _=>trivial,?_⟩
 ·simp only [invoke,h3];exact h2
 ·obtain ⟨g1,g2⟩:=h1.calls .returning
  refine ⟨g1,fun c cs hc hr=>?_⟩
  obtain ⟨e,u',w',fr',⟨q1,v,q2,D,hR,hS⟩,q3⟩:=g2 c cs hc hr
  refine ⟨e,u',w',fr',?_,q3⟩
  subst q1;subst q2
  exact ((k v D hR).run w' hS).run { a with defers:=ds } ⟨ha.size,rfl,ha.slot⟩⟩⟩
theorem rDn {m:Nat} {fn:Func} {w0:World} {A0:List Ch} {R:Value→List Ch→Prop} (h:R v D) (hr:∀ w,Sat A w→∀ a,Holds ⟨m,[],none⟩ a fr→(results fn a.tmps).run P w = .ok v w) (hf:Fit A D G:=by exact fitA) (nb:∀ c ∈ D,∀ b,¬ c.bd b:=by (repeat (first | exact nb0 | refine nb1 ?_));first | done | fail) :
  TX E ⟨m,[],none⟩ ⟨DP P fn w0 A0 R,w0,A0⟩ [] .ret fr A:=⟨fun w hw=>⟨fun a ha=>by
 show LeavesIn (FF none) 0 P fn a.tmps (RetP (PR w0 A0 R)) a.defers .returning w
 rw [ha.defers]
 unfold LeavesIn
 have h1:=hw.im (Im.trans hf (Im.drop _ _))
 exact ⟨v,hr w hw.sat a ha,v,rfl,D,h,h1.sat,h1.mv,nb⟩⟩⟩
end
end Go.Art
namespace Go.Art
open Go Go.Proofs Go.RowKit
abbrev wU (n:Int):Value:=.int .u64 n
def Zs (l:List Nat):List Int:=l.map Int.ofNat
theorem Us_eq (l:List Nat):Us l = (Zs l).map wU:=by unfold Zs;rw [List.map_map];rfl
open Go Go.Proofs Go.RowKit
def hpc:List (Value × Value)→List Value
 | []=>[]
 | p :: r=>p.1 :: p.2 :: hpc r
def pcl:List Rat→List (List Int)
 | []=>[]
 | q :: r=>Zs (dg q.num.natAbs) :: Zs (dg q.den) :: pcl r
abbrev rrow (q:Rat) (h:Value × Value):List Value:=[.bool (decide (q.num < 0)),h.1,h.2]
def rcs (qs:List Rat) (hs:List (Value × Value)):List Value:=(List.zipWith rrow qs hs).flatten
abbrev nS2:Value × Value:=(nS,nS)
theorem hpc_len (hs:List (Value × Value)):(hpc hs).length = 2 * hs.length:=by
 induction hs with
 | nil=>rfl
 | cons p r ih=>simp only [hpc,List.length_cons,ih];omega
theorem pcl_len (qs:List Rat):(pcl qs).length = 2 * qs.length:=by
 induction qs with
 | nil=>rfl
 | cons p r ih=>simp only [pcl,List.length_cons,ih];omega
theorem hpc_app (a b:List (Value × Value)):hpc (a ++ b) = hpc a ++ hpc b:=by
 induction a with
 | nil=>rfl
 | cons p r ih=>simp [hpc,ih]
theorem pcl_app (a b:List Rat):pcl (a ++ b) = pcl a ++ pcl b:=by
 induction a with
 | nil=>rfl
 | cons p r ih=>simp [pcl,ih]
theorem hpc_get:∀ (hs:List (Value × Value)) (i:Nat),i < hs.length→(hpc hs).getD (2 * i) nS = (hs.getD i nS2).1∧(hpc hs).getD (2 * i + 1) nS = (hs.getD i nS2).2
 | [],i,h=>absurd h (Nat.not_lt_zero _)
 | p :: r,0,_=>⟨rfl,rfl⟩
 | p :: r,i + 1,h=>by
  have:=hpc_get r i (by simpa using h)
  rw [show 2 * (i + 1) = 2 * i + 1 + 1 by omega]
  simpa [hpc,List.getD_eq_getElem?_getD] using this
theorem pcl_get:∀ (qs:List Rat) (i:Nat),i < qs.length→(pcl qs).getD (2 * i) [] = Zs (dg (qs.getD i 0).num.natAbs)∧(pcl qs).getD (2 * i + 1) [] = Zs (dg (qs.getD i 0).den)
 | [],i,h=>absurd h (Nat.not_lt_zero _)
 | p :: r,0,_=>⟨rfl,rfl⟩
 | p :: r,i + 1,h=>by
  have:=pcl_get r i (by simpa using h)
  rw [show 2 * (i + 1) = 2 * i + 1 + 1 by omega]
  simpa [pcl,List.getD_eq_getElem?_getD] using this
abbrev vfr (hs:List (Value × Value)) (qs:List Rat):Ch:=velg wU (hpc hs) (pcl qs)
abbrev ofr (hs:List (Value × Value)) (qs:List Rat):Ch:=owl T64 wU (hpc hs) (pcl qs)
theorem has_fr {F:List Ch} {hs:List (Value × Value)} {qs:List Rat} (h:Has F (vfr hs qs)) (hl:hs.length = qs.length) {i:Nat} (hi:i < qs.length):Has F (vw (hs.getD i nS2).1 (Us (dg (qs.getD i 0).num.natAbs)))∧Has F (vw (hs.getD i nS2).2 (Us (dg (qs.getD i 0).den))):=by
 have a1:=has_elg h (i:=2 * i) (by rw [pcl_len];omega)
 have a2:=has_elg h (i:=2 * i + 1) (by rw [pcl_len];omega)
 rw [(hpc_get hs i (by omega)).1,(pcl_get qs i hi).1,← Us_eq] at a1
 rw [(hpc_get hs i (by omega)).2,(pcl_get qs i hi).2,← Us_eq] at a2
 exact ⟨a1,a2⟩
theorem rcs_row {hs:List (Value × Value)} {qs:List Rat} (hl:hs.length = qs.length) {i:Nat} (hi:i < qs.length):((rcs qs hs).drop (3 * i)).take 3 = rrow (qs.getD i 0) (hs.getD i nS2):=by
 refine flat_row (sz:=3) (fun r hr=>?_) ?_
 ·obtain ⟨j,hj,rfl⟩:=List.mem_iff_getElem.1 hr
  rw [List.getElem_zipWith];rfl
 ·rw [List.getElem?_zipWith,List.getElem?_eq_getElem hi,List.getElem?_eq_getElem (show i < hs.length by omega)]
  simp [List.getD_eq_getElem?_getD,hi,show i < hs.length by omega]
theorem fr_one {F:List Ch} {hs:List (Value × Value)} {qs:List Rat} (h:Has F (vfr hs qs)) (hl:hs.length = qs.length) {i:Nat} (hi:i < qs.length) (w:World) (hw:Sat F w):(hs.getD i nS2).1.oneCell' = true∧(hs.getD i nS2).2.oneCell' = true:=by
 obtain ⟨a1,a2⟩:=has_fr h hl hi
 obtain ⟨_,_,e1,_⟩:=(a1.P w hw:Sl w _ _)
 obtain ⟨_,_,e2,_⟩:=(a2.P w hw:Sl w _ _)
 rw [e1,e2]
 exact ⟨rfl,rfl⟩
theorem foldl_take {α β:Type} [Inhabited α] (f:β→α→β) (b:β) {l:List α} {i:Nat} (h:i < l.length) (z:α):(l.take (i + 1)).foldl f b = f ((l.take i).foldl f b) (l.getD i z):=by
 rw [take_succ' h z,List.foldl_append];rfl
section
variable {P:Program} {E:Env P} {fr:Fr} {n:Sh}
theorem res_ac {fn:Func} {w:World} {a:Act} (ha:Holds n a fr) {t u:Nat} {ty ty2 T:TypeId} {dt d2:TypeDesc} {z:Value} {sz by_ b:Nat} {cs vs:List Value} {ad2:Addr} {v2:Value} (hr:fn.results = #[.cell t ty,.cell u ty2]) (ht:lk E.und ty = some dt) (hg:aggB dt = true) (hi:lk E.inf ty = some (z,sz,by_)) (h1:get fr t = some (ptr b))
  (hb:w.heap[b]? = some (.cells cs.toArray T (0,0))) (hv:cs.take sz = vs) (hl:vs.length = sz) (ht2:lk E.und ty2 = some d2) (hg2:aggB d2 = false) (h2:get fr u = some (.pointer (some ad2))) (hc2:w.cell? ad2 = some v2):(results fn a.tmps).run P w = .ok (.tuple #[.agg vs.toArray,v2]) w:=by
 obtain ⟨inf,g1,_,g2,_⟩:=E.info hi
 have h3:=run_loadCells_list (P:=P) w ⟨b,0,none⟩ vs (fun m u hm=>by
  rw [Addr.add_lit]
  refine blk_cell hb ?_
  rw [← hv,List.getElem?_take] at hm
  split at hm
  ·simpa using hm
  ·cases hm)
 rw [hl] at h3
 have e1:a.tmps[t]?.getD undef = ptr b:=by have:=ha.slot t _ h1;simpa using this
 have e2:a.tmps[u]?.getD undef = .pointer (some ad2):=by have:=ha.slot u _ h2;simpa using this
 simp only [results,hr]
 simp [e1,e2,asAddr,loadVar,aggB_t (w:=w) ht hg,sizeOf,typeInfo,g1,g2,h3,aggB_run (w:=w) ht2 hg2,hc2]
end
structure FoG where
 i:Nat
 vn:Value
 vd:Value
attribute [local irreducible] Fit pt own ro vw mpc lpt vels rels mow lrc dfr
attribute [local irreducible] lmp lme mit velg relg bnd owl
theorem foldD_tr (c7 c6:Nat):TrD Tryz.prog 119 [ptr c7,ptr c6] [lpt c7 [I 0] 27] [] fun _ D=>D = []:=by
 refine TrD.enter env _ Tryz.func119 (by kernel_rfl) rfl Tryz.ntmps119 rfl (by (repeat (first | exact has00 | refine has01 ?_));first | done | fail) fun w0=>?_
 repeat' first|(refine wo ?_;first|(refine ao ?_;first|refine oa ?_)|refine ldl ?_)|(refine gc ?_;first|refine cf ?_)|refine sq ?_|refine rg ?_|refine xc ?_|refine nl ?_|refine sk ?_
 exact e0 rfl
theorem Fold_tr (opf:Rat→Rat→Rat) (op:FuncId) (s0:Rat) (sn sd lv:Value) (qs:List Rat) (hs:List (Value × Value)) (hn:sn.oneCell' = true) (hd:sd.oneCell' = true) (hl:hs.length = qs.length)
  (hFB:∀ i,i < qs.length→FB (qs.getD i 0) 549755813888)
  (hop:∀ i,i < qs.length→∀ v1 v2,v1.oneCell' = true→v2.oneCell' = true→(hs.getD i nS2).1.oneCell' = true→(hs.getD i nS2).2.oneCell' = true→Tr Tryz.prog op [rv ((qs.take i).foldl opf s0) v1 v2,rv (qs.getD i 0) (hs.getD i nS2).1 (hs.getD i nS2).2]
   [vw v1 (Us (dg ((qs.take i).foldl opf s0).num.natAbs)),vw v2 (Us (dg ((qs.take i).foldl opf s0).den)),vw (hs.getD i nS2).1 (Us (dg (qs.getD i 0).num.natAbs)),vw (hs.getD i nS2).2 (Us (dg (qs.getD i 0).den))] [] (FQ (opf ((qs.take i).foldl opf s0) (qs.getD i 0)))) :
  Tr Tryz.prog 69 [rv s0 sn sd,.func (.func op) #[] #[],lv] [vwf lv qs.length (rcs qs hs),vfr hs qs] [own T64 sn (Us (dg s0.num.natAbs)),own T64 sd (Us (dg s0.den))] (FQ2 (qs.foldl opf s0) 0):=by
 refine Tr.enterD env _ Tryz.func69 (by kernel_rfl) rfl Tryz.ntmps69 rfl (by (repeat (first | exact has00 | refine has01 ?_));first | done | fail) fun w0=>?_
 refine TC.fact (fun w hw=>has_len (v:=lv) (N:=qs.length) (xs:=rcs qs hs) hasA w hw) fun hml=>?_
 repeat' first|refine bx fun c=>?_|refine al fun c=>?_|refine df ?_|refine lnw (N:=qs.length) (xs:=rcs qs hs) ?_|(refine wo ?_;first|refine oa ?_)|refine sq ?_|refine rg ?_|refine xc ?_|refine nl ?_|refine bk ?_
 rename_i c3 c6
 refine TC.loop (ι:=Nat) (fun i=>[(15,I i)]) (fun i=>[pt c [I 0] 27]) (fun i=>i ≤ qs.length) (fun i=>qs.length - i) 0 [1,2,3,6,7,12,13,14] (Nat.zero_le _) ?_
 rintro i hi
 by_cases hlt:i < qs.length
 ·refine TC.fact (fun w hw=>fr_one (hs:=hs) (qs:=qs) hasA hl hlt w hw) fun ho=>?_
  obtain ⟨ho1,ho2⟩:=ho
  have hrow:=rcs_row hl hlt
  have hK:=FCheck_tr (qs.getD i 0) (hs.getD i nS2).1 (hs.getD i nS2).2 ho1 ho2 (hFB i hlt)
  repeat' first|(refine gca ?_;first|(refine ca hK ?_ (hp:=has1 (has_fr hasA hl hlt).1 (has1 (has_fr hasA hl hlt).2 has0));rintro _ _ ⟨rfl,rfl⟩))|refine ixws (i:=(i:Int)) (N:=qs.length) (xs:=rcs qs hs) ?_|refine ldaw (N:=qs.length) (xs:=rcs qs hs) (m:=3 * i) hrow ?_|refine al fun c9=>?_|refine srz ?_|refine lda ?_|(refine wo ?_;first|(refine ao ?_;first|refine aw ?_|refine oa ?_)|refine oa ?_|refine ld ?_|refine sr ?_)|(refine gc ?_;first|refine cf ?_|(refine ci (fun hB=>?_) (fun hB=>?_) <;> try (exfalso;omega)))|refine sq ?_|refine rg ?_|refine xc ?_|refine nl ?_|refine sk ?_|refine bk ?_|refine xb ?_
  exact lp (i + 1) hlt
 obtain rfl:i = qs.length:=by omega
 repeat' first|refine lda ?_|refine srz ?_|refine lnw (N:=qs.length) (xs:=rcs qs hs) ?_|(refine wo ?_;first|(refine ao ?_;first|refine oa ?_)|refine oa ?_)|(refine gc ?_;first|(refine ci (fun hB=>?_) (fun hB=>?_) <;> try (exfalso;omega)))|refine sq ?_|refine rg ?_|refine xc ?_|refine nl ?_|refine bk ?_|refine xe ?_
 refine TC.loop (ι:=FoG) (fun g=>[(27,I g.i)]) (fun g=>[pt c6 (rrow ((qs.take g.i).foldl opf s0) (g.vn,g.vd)) TRt,own T64 g.vn (Us (dg ((qs.take g.i).foldl opf s0).num.natAbs)),own T64 g.vd (Us (dg ((qs.take g.i).foldl opf s0).den))]) (fun g=>g.i ≤ qs.length∧g.vn.oneCell' = true∧g.vd.oneCell' = true) (fun g=>qs.length - g.i) ⟨0,sn,sd⟩ [1,2,6,7,25,26] ⟨Nat.zero_le _,hn,hd⟩ ?_
 rintro ⟨i,vn,vd⟩ ⟨hi,hvn,hvd⟩
 dsimp only at hi hvn hvd ⊢
 by_cases hlt:i < qs.length
 ·refine TC.fact (fun w hw=>fr_one (hs:=hs) (qs:=qs) hasA hl hlt w hw) fun ho=>?_
  obtain ⟨ho1,ho2⟩:=ho
  have hrow:=rcs_row hl hlt
  have hO:=hop i hlt vn vd hvn hvd ho1 ho2
  have hst:=foldl_take opf s0 hlt 0
  obtain ⟨p,hp⟩ : ∃ p,p = (qs.take i).foldl opf s0:=⟨_,rfl⟩
  obtain ⟨p2,hp2⟩ : ∃ p,p = (qs.take (i + 1)).foldl opf s0:=⟨_,rfl⟩
  rw [← hp,← hp2] at hst
  rw [← hp] at hO ⊢
  rw [← hst] at hO
  unfold FQ at hO
  repeat' first|refine ixws (i:=(i:Int)) (N:=qs.length) (xs:=rcs qs hs) ?_|refine ldaw (N:=qs.length) (xs:=rcs qs hs) (m:=3 * i) hrow ?_|refine al fun c9=>?_|refine srz ?_ (hj:=Nat.le_of_ble_eq_true rfl)|refine lda ?_|(refine cav (cap:=#[]) (vs:=[rv p vn vd,rv (qs.getD i 0) (hs.getD i nS2).1 (hs.getD i nS2).2]) hO ?_ (hp:=has1 hasA (has1 hasA (has1 (has_fr hasA hl hlt).1 (has1 (has_fr hasA hl hlt).2 has0))));rintro _ _ ⟨vn2,vd2,rfl,hvn2,hvd2,rfl⟩)|(refine wo ?_;first|(refine ao ?_;first|refine aw ?_|refine oa ?_)|refine oa ?_)|(refine gc ?_;first|(refine ci (fun hB=>?_) (fun hB=>?_) <;> try (exfalso;omega)))|refine sq ?_|refine rg ?_|refine xc ?_|refine nl ?_|refine sk ?_|refine bk ?_|refine xb ?_
  exact lp ⟨i + 1,vn2,vd2⟩ ⟨hlt,hvn2,hvd2⟩ (hf:=by dsimp only;rw [← hp2];exact fitA)
 ·obtain rfl:i = qs.length:=by omega
  rw [List.take_length]
  generalize qs.foldl opf s0 = p at *
  repeat' first|refine lda ?_|refine srz ?_ (hj:=Nat.le_of_ble_eq_true rfl)|(refine wo ?_;first|(refine ao ?_;first|refine oa ?_)|refine sr ?_)|(refine gc ?_;first|(refine ci (fun hB=>?_) (fun hB=>?_) <;> try (exfalso;omega)))|refine sq ?_|refine rg ?_|refine xc ?_|refine nl ?_|refine xe ?_|refine rt ?_
  refine rD (foldD_tr c c6) ?_ (vs:=[]) (cap:=#[ptr c,ptr c6])
  rintro _ _ rfl
  refine rDn (v:=tup2 (rv p vn vd) (I 0)) ⟨vn,vd,rfl,hvn,hvd,rfl⟩ (fun w hw a ha=>?_)
  exact res_ac (E:=env) ha rfl rfl rfl rfl rfl (pt_at memA hw) rfl rfl rfl rfl rfl (ptcell (cs:=[I 0]) (T:=27) hw memA rfl)
end Go.Art
namespace Go.Art
open Go Go.Proofs Go.RowKit
theorem has_velg_nil {g:Int→Value} {F:List Ch}:Has F (velg g [] []):=⟨fun _ _=>⟨rfl,fun i hi=>by simp at hi⟩,fun _ h=>h,fun _ h=>h,fun b hb=>by
 rcases hb with hb | hb | ⟨i,hi,_⟩
 ·exact hb.elim
 ·exact hb.elim
 ·simp at hi⟩
theorem has_velg_cons {g:Int→Value} {F:List Ch} {v:Value} {l:List Int} {hs:List Value} {ls:List (List Int)} (h:Has F (vw v (l.map g))) (k:Has F (velg g hs ls)):Has F (velg g (v :: hs) (l :: ls)):=by
 have hb:∀ b,(velg g (v :: hs) (l :: ls)).ft b→(vw v (l.map g)).ft b∨(velg g hs ls).ft b:=fun b hb=>by
  rcases hb with hb | hb | ⟨i,hi,h1,h2⟩
  ·exact hb.elim
  ·exact hb.elim
  ·cases i with
   | zero=>exact .inl (.inr (.inr ⟨h1,h2⟩))
   | succ i=>exact .inr (.inr (.inr ⟨i,by simpa using hi,h1,h2⟩))
 refine ⟨fun w hw=>?_,fun _ h=>h,fun _ h=>h,fun b hx=>?_⟩
 ·obtain ⟨k1,k2⟩:=(k.P w hw:elgP g hs ls w)
  refine ⟨by simp [k1],fun i hi=>?_⟩
  cases i with
  | zero=>exact h.P w hw
  | succ i=>exact k2 i (by simpa using hi)
 ·rcases hb b hx with h1 | h1
  ·exact h.ft b h1
  ·exact k.ft b h1
theorem has_vfr_nil {F:List Ch}:Has F (vfr [] []):=has_velg_nil
theorem has_vfr_cons {F:List Ch} {v1 v2:Value} {q:Rat} {hs:List (Value × Value)} {qs:List Rat} (h1:Has F (vw v1 (Us (dg q.num.natAbs)))) (h2:Has F (vw v2 (Us (dg q.den)))) (k:Has F (vfr hs qs)):Has F (vfr ((v1,v2) :: hs) (q :: qs)):=by
 rw [Us_eq] at h1 h2
 exact has_velg_cons h1 (has_velg_cons h2 k)
theorem FB_mk {a D B:Nat} (hD:D ≠ 0) (ha:(dg a).length ≤ B) (hd:(dg D).length ≤ B):FB (mkRat (a:Int) D) B:=by
 refine ⟨?_,?_⟩
 ·rw [mk_abs _ hD,Int.natAbs_natCast]
  exact Nat.le_trans (dg_mono (Nat.div_le_self _ _)) ha
 ·rw [mk_den _ hD]
  exact Nat.le_trans (dg_mono (Nat.div_le_self _ _)) hd
theorem FB_mk1 {a D:Nat} (hD:D ≠ 0) (ha:a < 18446744073709551616) (hd:D < 18446744073709551616):FB (mkRat (a:Int) D) 1:=FB_mk hD (dg_len1 ha) (dg_len1 hd)
attribute [local irreducible] Fit pt own ro vw mpc lpt vels rels mow lrc dfr
attribute [local irreducible] lmp lme mit velg relg bnd owl
theorem FAdd_tr (lv:Value) (qs:List Rat) (hs:List (Value × Value)) (hl:hs.length = qs.length) (hFB:∀ i,i < qs.length→FB (qs.getD i 0) 8589934592) (hP:∀ i,i < qs.length→FB ((qs.take i).foldl (· + ·) 0) 8589934592) :
  Tr Tryz.prog 32 [lv] [vwf lv qs.length (rcs qs hs),vfr hs qs] [] (FQ2 (qs.foldl (· + ·) 0) 0):=by
 have hF:=fun o ho=>Fold_tr (· + ·) 71 0 nS o lv qs hs rfl ho hl (fun i hi=>(hFB i hi).le (by decide)) (fun i hi v1 v2 h1 h2 h3 h4=>FSum_tr _ _ v1 v2 _ _ h1 h2 h3 h4 (hP i hi) (hFB i hi))
 have e1:dg (0:Rat).num.natAbs = []:=by rw [show (0:Rat).num.natAbs = 0 from rfl,dg_zero]
 have e2:dg (0:Rat).den = [1]:=by rw [show (0:Rat).den = 1 from rfl,dg_pos (by decide)];rw [show 1 / 18446744073709551616 = 0 from rfl,dg_zero]
 rw [e1,e2] at hF
 unfold FQ2 at hF ⊢
 generalize qs.foldl (· + ·) (0:Rat) = p at *
 refine Tr.enter env _ Tryz.func32 (by kernel_rfl) rfl Tryz.ntmps32 rfl (by repeat (first | exact has00 | refine has01 ?_)) fun w0=>?_
 refine TC.im (own_nil T64 _) ?_
 repeat' first|(refine gca ?_;first|(refine ca one_tr ?_;rintro o _ ⟨ho,rfl⟩)|(refine ca (hF o ho) ?_;rintro _ _ ⟨vn,vd,rfl,hvn,hvd,rfl⟩))|refine al fun c=>?_|refine bdm ?_|refine srz ?_|(refine wo ?_;first|refine oa ?_)|refine sq ?_|refine rg ?_|refine xc ?_|refine nl ?_|refine rt ?_
 exact rca (cs:=[.bool (decide (p.num < 0)),vn,vd]) (vs:=[.bool (decide (p.num < 0)),vn,vd]) (T:=TRt) ⟨vn,vd,rfl,hvn,hvd,rfl⟩
theorem FAdd0_tr:Tr Tryz.prog 32 [nS] [] [] (FQ2 0 0):=by
 have h:=FAdd_tr nS [] [] rfl (fun i hi=>absurd hi (Nat.not_lt_zero _)) (fun i hi=>absurd hi (Nat.not_lt_zero _))
 refine ⟨fun w hw=>h.run w ?_,has00⟩
 refine Sat.app.2 ⟨?_,hw,fun a ha c hc=>nomatch hc⟩
 have g1:Has [] (vwf nS 0 []):=⟨fun w _=>⟨none,0,rfl,Nat.le_refl _,by unfold maxLen;omega,fun h=>absurd h (Nat.lt_irrefl _),fun i u h=>by simp at h⟩,fun _ h=>h,fun _ h=>h,fun b hb=>by rcases hb with hb | hb | hb;exact hb.elim;exact hb.elim;exact absurd rfl hb.1⟩
 have:=lend (pre:=[vwf nS 0 [],vfr [] []]) (A:=[]) (F:=[]) (w:=w) (Sat.nil w) (has1 g1 (has1 has_vfr_nil has0))
 rw [List.append_nil] at this
 exact this
end Go.Art
namespace Go.Art
open Go Go.Proofs Go.RowKit
theorem rmul_den (q r:Rat):(q * r).den = (q.den / Nat.gcd r.num.natAbs q.den) * (r.den / Nat.gcd q.num.natAbs r.den):=by
 show (Rat.mul q r).den = _
 unfold Rat.mul
 rfl
theorem rmul_num (q r:Rat):(q * r).num = (q.num / (Nat.gcd q.num.natAbs r.den:Nat)) * (r.num / (Nat.gcd r.num.natAbs q.den:Nat)):=by
 show (Rat.mul q r).num = _
 unfold Rat.mul
 simp only [Int.divExact_eq_ediv]
theorem rmul_abs (q r:Rat):(q * r).num.natAbs = (q.num.natAbs / Nat.gcd q.num.natAbs r.den) * (r.num.natAbs / Nat.gcd r.num.natAbs q.den):=by
 rw [rmul_num,Int.natAbs_mul,natAbs_div _ _ (Int.ofNat_dvd_left.2 (Nat.gcd_dvd_left _ _)),natAbs_div _ _ (Int.ofNat_dvd_left.2 (Nat.gcd_dvd_left _ _))]
theorem div_sgn {z:Int} {g:Nat} (h:g ∣ z.natAbs) (hg:g ≠ 0):decide (z / (g:Int) < 0) = decide (z < 0):=by
 refine decide_eq_decide.2 ⟨fun k=>?_,fun k=>?_⟩
 ·rcases Int.lt_or_le z 0 with h1 | h1
  ·exact h1
  ·have:=Int.ediv_nonneg h1 (Int.natCast_nonneg g);omega
 ·exact Int.ediv_neg_of_neg_of_pos k (by omega)
theorem rmul_sgn (q r:Rat):decide ((q * r).num < 0) = (!(decide (q.num < 0) == decide (r.num < 0)) && decide (0 < (q.num.natAbs / Nat.gcd q.num.natAbs r.den) * (r.num.natAbs / Nat.gcd r.num.natAbs q.den))):=by
 have g1:Nat.gcd q.num.natAbs r.den ≠ 0:=Nat.ne_of_gt (Nat.gcd_pos_of_pos_right _ (Nat.pos_of_ne_zero r.den_nz))
 have g2:Nat.gcd r.num.natAbs q.den ≠ 0:=Nat.ne_of_gt (Nat.gcd_pos_of_pos_right _ (Nat.pos_of_ne_zero q.den_nz))
 have h1:=div_sgn (z:=q.num) (Nat.gcd_dvd_left q.num.natAbs r.den) g1
 have h2:=div_sgn (z:=r.num) (Nat.gcd_dvd_left r.num.natAbs q.den) g2
 have h3:=natAbs_div q.num (Nat.gcd q.num.natAbs r.den) (Int.ofNat_dvd_left.2 (Nat.gcd_dvd_left _ _))
 have h4:=natAbs_div r.num (Nat.gcd r.num.natAbs q.den) (Int.ofNat_dvd_left.2 (Nat.gcd_dvd_left _ _))
 rw [rmul_num,← h1,← h2,← h3,← h4,← sg_mul,sg_neg]
attribute [local irreducible] Fit pt own ro vw mpc lpt vels rels mow lrc dfr
attribute [local irreducible] lmp lme mit velg relg bnd owl
theorem FProd_tr (q r:Rat) (v1 v2 v3 v4:Value) (h1:v1.oneCell' = true) (h2:v2.oneCell' = true) (h3:v3.oneCell' = true) (h4:v4.oneCell' = true) (hq:FB q 8589934592) (hr:FB r 8589934592) :
  Tr Tryz.prog 140 [rv q v1 v2,rv r v3 v4] [vw v1 (Us (dg q.num.natAbs)),vw v2 (Us (dg q.den)),vw v3 (Us (dg r.num.natAbs)),vw v4 (Us (dg r.den))] [] (FQ (q * r)):=by
 have hG1:=NGcd_tr v1 v4 (dg q.num.natAbs) (dg r.den) (Dg_dg _) (Dg_dg _) (by have:=hq.1;omega) (by have:=hr.2;omega)
 have hG2:=NGcd_tr v3 v2 (dg r.num.natAbs) (dg q.den) (Dg_dg _) (Dg_dg _) (by have:=hr.1;omega) (by have:=hq.2;omega)
 rw [nv_dg,nv_dg] at hG1 hG2
 have e1:=rmul_abs q r
 have e2:=rmul_den q r
 have e3:=rmul_sgn q r
 obtain ⟨g,hg⟩ : ∃ g,g = Nat.gcd q.num.natAbs r.den:=⟨_,rfl⟩
 obtain ⟨h,hh⟩ : ∃ h,h = Nat.gcd r.num.natAbs q.den:=⟨_,rfl⟩
 have g0:g ≠ 0:=by rw [hg];exact Nat.ne_of_gt (Nat.gcd_pos_of_pos_right _ (Nat.pos_of_ne_zero r.den_nz))
 have h0:h ≠ 0:=by rw [hh];exact Nat.ne_of_gt (Nat.gcd_pos_of_pos_right _ (Nat.pos_of_ne_zero q.den_nz))
 have gl:(dg g).length ≤ 8589934592:=by rw [hg];exact Nat.le_trans (dg_mono (Nat.gcd_le_right _ (Nat.pos_of_ne_zero r.den_nz))) hr.2
 have hl:(dg h).length ≤ 8589934592:=by rw [hh];exact Nat.le_trans (dg_mono (Nat.gcd_le_right _ (Nat.pos_of_ne_zero q.den_nz))) hq.2
 rw [← hg] at hG1 e1 e2 e3
 rw [← hh] at hG2 e1 e2 e3
 have q1:=hq.1
 have q2:=hq.2
 have r1':=hr.1
 have r2':=hr.2
 have hB1:=fun o=>by_tr v1 o (dg q.num.natAbs) (dg g) (Dg_dg _) (Dg_dg _) (by omega) (by omega) (by rw [nv_dg];exact g0)
 have hB2:=fun o=>by_tr v3 o (dg r.num.natAbs) (dg h) (Dg_dg _) (Dg_dg _) (by omega) (by omega) (by rw [nv_dg];exact h0)
 have hB3:=fun o=>by_tr v2 o (dg q.den) (dg h) (Dg_dg _) (Dg_dg _) (by omega) (by omega) (by rw [nv_dg];exact h0)
 have hB4:=fun o=>by_tr v4 o (dg r.den) (dg g) (Dg_dg _) (Dg_dg _) (by omega) (by omega) (by rw [nv_dg];exact g0)
 simp only [nv_dg] at hB1 hB2 hB3 hB4
 have m1:(dg (q.num.natAbs / g)).length ≤ 8589934592:=Nat.le_trans (dg_mono (Nat.div_le_self _ _)) q1
 have m2:(dg (r.num.natAbs / h)).length ≤ 8589934592:=Nat.le_trans (dg_mono (Nat.div_le_self _ _)) r1'
 have m3:(dg (q.den / h)).length ≤ 8589934592:=Nat.le_trans (dg_mono (Nat.div_le_self _ _)) q2
 have m4:(dg (r.den / g)).length ≤ 8589934592:=Nat.le_trans (dg_mono (Nat.div_le_self _ _)) r2'
 have hM1:=fun x y=>NMul_tr x y (dg (q.num.natAbs / g)) (dg (r.num.natAbs / h)) (Dg_dg _) (Dg_dg _) (by omega) (by omega)
 have hM2:=fun x y=>NMul_tr x y (dg (q.den / h)) (dg (r.den / g)) (Dg_dg _) (Dg_dg _) (by omega) (by omega)
 simp only [nv_dg] at hM1 hM2
 have ml:=dg_mul_len m1 m2
 have hI:=fun b o=>IMake_tr b o (dg (q.num.natAbs / g * (r.num.natAbs / h))) (Dg_dg _) (by omega)
 rw [← e1] at hM1 hI e3
 rw [← e2] at hM2
 simp only [nv_dg] at hI
 unfold IR at hI
 simp only [sg_abs,sg_neg] at hI
 obtain ⟨s,hs⟩ : ∃ s,s = q * r:=⟨_,rfl⟩
 rw [← hs] at hM1 hM2 hI e3 ⊢
 clear e1 e2 hs ml
 show Tr _ _ [.agg #[.bool (decide (q.num < 0)),v1,v2],.agg #[.bool (decide (r.num < 0)),v3,v4]] _ _ _
 have hI2:=hI (!(decide (q.num < 0) == decide (r.num < 0)))
 rw [← e3] at hI2
 clear hI e3
 clear m1 m2 m3 m4 gl hl q1 q2 r1' r2' hq hr
 generalize dg (q.num.natAbs / g) = x1 at *
 generalize dg (r.num.natAbs / h) = x2 at *
 generalize dg (q.den / h) = x3 at *
 generalize dg (r.den / g) = x4 at *
 clear hg hh g0 h0
 generalize dg q.num.natAbs = lq at *
 generalize dg q.den = lqd at *
 generalize dg r.num.natAbs = lr at *
 generalize dg r.den = lrd at *
 generalize decide (q.num < 0) = b1 at *
 generalize decide (r.num < 0) = b2 at *
 refine Tr.enter env _ Tryz.func140 (by kernel_rfl) rfl Tryz.ntmps140 rfl (by repeat (first | exact has00 | refine has01 ?_)) fun w0=>?_
 repeat' first|refine bx fun q=>?_|refine al fun c=>?_|refine sq ?_|refine rg ?_|refine xc ?_|refine nl ?_
 rename_i q1
 refine rs (fun w=>w.heap[q1]? = some (.cells [.bool b1,v1,v2].toArray TRt (0,0))∧w.heap[q]? = some (.cells [.bool b2,v3,v4].toArray TRt (0,0))) ?_ (fun w hw=>⟨pt_at memA hw,pt_at memA hw⟩)
 refine tka 0 ?_
 refine tka 1 ?_
 refine tkl 2 (cs:=[.bool b1,v1,v2]) (fun w h=>h.1) ?_
 refine tka 3 ?_
 refine tkl 4 (cs:=[.bool b2,v3,v4]) (fun w h=>h.2) ?_
 refine tka 6 ?_
 refine tka 7 ?_
 refine tkl 8 (cs:=[.bool b2,v3,v4]) (fun w h=>h.2) ?_
 refine tka 9 ?_
 refine tkl 10 (cs:=[.bool b1,v1,v2]) (fun w h=>h.1) ?_
 refine t1 5 ?_
 refine ca hG1 ?_
 rintro o1 _ ⟨ho1,rfl⟩
 refine nl ?_
 refine te (fun w hw=>⟨pt_at memA hw,pt_at memA hw⟩) ?_
 refine t1 11 ?_
 refine ca hG2 ?_
 rintro o2 _ ⟨ho2,rfl⟩
 refine nl ?_
 refine te (fun w hw=>⟨pt_at memA hw,pt_at memA hw⟩) ?_
 refine tka 12 ?_
 refine tka 13 ?_
 refine t0 ?_
 repeat' first|refine sq ?_|refine xc ?_
 refine cutY (ι:=Nat × Value) (fun u=>u.2.oneCell' = true) (fun u=>[(2,ptr q1),(3,ptr q),(4,ptr c),(5,o1),(6,o2),(7,ptr u.1)]) (fun u=>[pt q1 [.bool b1,v1,v2] TRt,pt q [.bool b2,v3,v4] TRt,pt c [.bool false,nS,nS] TRt,pt u.1 [.bool (decide (s.num < 0)),u.2] TIt,own T64 u.2 (Us (dg s.num.natAbs)),vw v2 (Us lqd),vw v4 (Us lrd),own T64 o1 (Us (dg g)),own T64 o2 (Us (dg h))]) ?_ ?_
 ·rintro ⟨c2,o3⟩ ho3
  dsimp only at ho3 ⊢
  repeat' first|refine sq ?_
  refine rs (fun w=>w.heap[q1]? = some (.cells [.bool b1,v1,v2].toArray TRt (0,0))∧w.heap[q]? = some (.cells [.bool b2,v3,v4].toArray TRt (0,0))∧w.heap[c2]? = some (.cells [.bool (decide (s.num < 0)),o3].toArray TIt (0,0))) ?_ (fun w hw=>⟨pt_at memA hw,pt_at memA hw,pt_at memA hw⟩)
  refine tk 0 (v:=.agg #[.bool (decide (s.num < 0)),o3]) (fun w h=>R_loadA (E:=env) (vs:=[.bool (decide (s.num < 0)),o3]) rfl rfl rfl rfl h.2.2 rfl rfl) ?_
  refine tka 1 ?_
  refine tkl 2 (cs:=[.bool b1,v1,v2]) (fun w h=>h.1) ?_
  refine tka 3 ?_
  refine tka 5 ?_
  refine tkl 6 (cs:=[.bool b2,v3,v4]) (fun w h=>h.2.1) ?_
  refine tka 7 ?_
  refine t1 4 ?_
  refine ca (hB3 o2) ?_
  rintro y4 _ ⟨hy4,rfl⟩
  refine nl ?_
  refine te (fun w hw=>⟨pt_at memA hw,pt_at memA hw,pt_at memA hw⟩) ?_
  refine t1 8 ?_
  refine ca (hB4 o1) ?_
  rintro y5 _ ⟨hy5,rfl⟩
  refine nl ?_
  refine te (fun w hw=>⟨pt_at memA hw,pt_at memA hw,pt_at memA hw⟩) ?_
  refine t1 9 ?_
  refine ca (hM2 y4 y5) ?_
  rintro y6 _ ⟨hy6,rfl⟩
  refine nl ?_
  refine te (fun w hw=>⟨pt_at memA hw,pt_at memA hw,pt_at memA hw⟩) ?_
  refine t1 10 ?_
  refine bdm ?_
  refine nl ?_
  refine te (fun w hw=>⟨pt_at memA hw,pt_at memA hw,pt_at memA hw⟩) ?_
  refine t1 11 ?_
  refine srz ?_
  refine nl ?_
  refine te (fun w hw=>⟨pt_at memA hw,pt_at memA hw,pt_at memA hw⟩) ?_
  refine t0 ?_
  repeat' first|refine xc ?_|refine rt ?_
  exact rca1 (cs:=[.bool (decide (s.num < 0)),o3,y6]) (vs:=[.bool (decide (s.num < 0)),o3,y6]) (T:=TRt) ⟨o3,y6,rfl,ho3,hy6,rfl⟩
 ·intro b' kb
  refine rs (fun w=>w.heap[q1]? = some (.cells [.bool b1,v1,v2].toArray TRt (0,0))∧w.heap[q]? = some (.cells [.bool b2,v3,v4].toArray TRt (0,0))) ?_ (fun w hw=>⟨pt_at memA hw,pt_at memA hw⟩)
  refine tka 0 ?_
  refine tka 1 ?_
  refine tkl 2 (cs:=[.bool b1,v1,v2]) (fun w h=>h.1) ?_
  refine tka 3 ?_
  refine tka 4 ?_
  refine tkl 5 (cs:=[.bool b2,v3,v4]) (fun w h=>h.2) ?_
  refine tk 6 (v:=.bool (!(b1 == b2))) (fun _ _=>R_bne (E:=env) (b1:=b1) (b2:=b2) rfl rfl rfl) ?_
  refine tka 7 ?_
  refine tka 8 ?_
  refine tkl 9 (cs:=[.bool b1,v1,v2]) (fun w h=>h.1) ?_
  refine tka 10 ?_
  refine tka 12 ?_
  refine tka 13 ?_
  refine tkl 14 (cs:=[.bool b2,v3,v4]) (fun w h=>h.2) ?_
  refine tka 15 ?_
  refine t2 11 19 ?_ ?_
  ·refine ca (hB1 o1) ?_
   rintro y1 _ ⟨hy1,rfl⟩
   refine nl ?_
   refine te (fun w hw=>⟨pt_at memA hw,pt_at memA hw⟩) ?_
   refine t2 16 19 ?_ ?_
   ·refine ca (hB2 o2) ?_
    rintro y2 _ ⟨hy2,rfl⟩
    refine nl ?_
    refine te (fun w hw=>⟨pt_at memA hw,pt_at memA hw⟩) ?_
    refine t2 17 19 ?_ ?_
    ·refine ca (hM1 y1 y2) ?_
     rintro y3 _ ⟨hy3,rfl⟩
     refine nl ?_
     refine te (fun w hw=>⟨pt_at memA hw,pt_at memA hw⟩) ?_
     refine t2 18 19 ?_ ?_
     ·refine ca (hI2 y3) ?_
      rintro _ _ ⟨o3,rfl,ho3,rfl⟩
      refine nl ?_
      refine te (fun w hw=>⟨pt_at memA hw,pt_at memA hw⟩) ?_
      refine t1 19 ?_
      refine al fun c2=>?_
      refine nl ?_
      refine te (fun w hw=>⟨pt_at memA hw,pt_at memA hw⟩) ?_
      refine t1 20 ?_
      refine srz ?_
      refine nl ?_
      refine te (fun w hw=>⟨pt_at memA hw,pt_at memA hw⟩) ?_
      refine t0 ?_
      repeat' first|refine xc ?_
      exact kb (c2,o3) ho3 _ _ (by (repeat (refine Sub.cons rfl (by first | rfl | go_num) ?_));exact Sub.nil) fitA
     ·refine al fun c2=>?_
      refine nl ?_
      refine te (fun w hw=>⟨pt_at memA hw,pt_at memA hw⟩) ?_
      refine t1 18 ?_
      refine ca (hI2 y3) ?_
      rintro _ _ ⟨o3,rfl,ho3,rfl⟩
      refine nl ?_
      refine te (fun w hw=>⟨pt_at memA hw,pt_at memA hw⟩) ?_
      refine t1 20 ?_
      refine srz ?_
      refine nl ?_
      refine te (fun w hw=>⟨pt_at memA hw,pt_at memA hw⟩) ?_
      refine t0 ?_
      repeat' first|refine xc ?_
      exact kb (c2,o3) ho3 _ _ (by (repeat (refine Sub.cons rfl (by first | rfl | go_num) ?_));exact Sub.nil) fitA
    ·refine al fun c2=>?_
     refine nl ?_
     refine te (fun w hw=>⟨pt_at memA hw,pt_at memA hw⟩) ?_
     refine t1 17 ?_
     refine ca (hM1 y1 y2) ?_
     rintro y3 _ ⟨hy3,rfl⟩
     refine nl ?_
     refine te (fun w hw=>⟨pt_at memA hw,pt_at memA hw⟩) ?_
     refine t1 18 ?_
     refine ca (hI2 y3) ?_
     rintro _ _ ⟨o3,rfl,ho3,rfl⟩
     refine nl ?_
     refine te (fun w hw=>⟨pt_at memA hw,pt_at memA hw⟩) ?_
     refine t1 20 ?_
     refine srz ?_
     refine nl ?_
     refine te (fun w hw=>⟨pt_at memA hw,pt_at memA hw⟩) ?_
     refine t0 ?_
     repeat' first|refine xc ?_
     exact kb (c2,o3) ho3 _ _ (by (repeat (refine Sub.cons rfl (by first | rfl | go_num) ?_));exact Sub.nil) fitA
   ·refine al fun c2=>?_
    refine nl ?_
    refine te (fun w hw=>⟨pt_at memA hw,pt_at memA hw⟩) ?_
    refine t1 16 ?_
    refine ca (hB2 o2) ?_
    rintro y2 _ ⟨hy2,rfl⟩
    refine nl ?_
    refine te (fun w hw=>⟨pt_at memA hw,pt_at memA hw⟩) ?_
    refine t1 17 ?_
    refine ca (hM1 y1 y2) ?_
    rintro y3 _ ⟨hy3,rfl⟩
    refine nl ?_
    refine te (fun w hw=>⟨pt_at memA hw,pt_at memA hw⟩) ?_
    refine t1 18 ?_
    refine ca (hI2 y3) ?_
    rintro _ _ ⟨o3,rfl,ho3,rfl⟩
    refine nl ?_
    refine te (fun w hw=>⟨pt_at memA hw,pt_at memA hw⟩) ?_
    refine t1 20 ?_
    refine srz ?_
    refine nl ?_
    refine te (fun w hw=>⟨pt_at memA hw,pt_at memA hw⟩) ?_
    refine t0 ?_
    repeat' first|refine xc ?_
    exact kb (c2,o3) ho3 _ _ (by (repeat (refine Sub.cons rfl (by first | rfl | go_num) ?_));exact Sub.nil) fitA
  ·refine al fun c2=>?_
   refine nl ?_
   refine te (fun w hw=>⟨pt_at memA hw,pt_at memA hw⟩) ?_
   refine t1 11 ?_
   refine ca (hB1 o1) ?_
   rintro y1 _ ⟨hy1,rfl⟩
   refine nl ?_
   refine te (fun w hw=>⟨pt_at memA hw,pt_at memA hw⟩) ?_
   refine t1 16 ?_
   refine ca (hB2 o2) ?_
   rintro y2 _ ⟨hy2,rfl⟩
   refine nl ?_
   refine te (fun w hw=>⟨pt_at memA hw,pt_at memA hw⟩) ?_
   refine t1 17 ?_
   refine ca (hM1 y1 y2) ?_
   rintro y3 _ ⟨hy3,rfl⟩
   refine nl ?_
   refine te (fun w hw=>⟨pt_at memA hw,pt_at memA hw⟩) ?_
   refine t1 18 ?_
   refine ca (hI2 y3) ?_
   rintro _ _ ⟨o3,rfl,ho3,rfl⟩
   refine nl ?_
   refine te (fun w hw=>⟨pt_at memA hw,pt_at memA hw⟩) ?_
   refine t1 20 ?_
   refine srz ?_
   refine nl ?_
   refine te (fun w hw=>⟨pt_at memA hw,pt_at memA hw⟩) ?_
   refine t0 ?_
   repeat' first|refine xc ?_
   exact kb (c2,o3) ho3 _ _ (by (repeat (refine Sub.cons rfl (by first | rfl | go_num) ?_));exact Sub.nil) fitA
theorem FMul_tr (lv:Value) (qs:List Rat) (hs:List (Value × Value)) (hl:hs.length = qs.length) (hFB:∀ i,i < qs.length→FB (qs.getD i 0) 8589934592) (hP:∀ i,i < qs.length→FB ((qs.take i).foldl (· * ·) 1) 8589934592) :
  Tr Tryz.prog 79 [lv] [vwf lv qs.length (rcs qs hs),vfr hs qs] [] (FQ2 (qs.foldl (· * ·) 1) 0):=by
 have hF:=fun o o2 ho ho2=>Fold_tr (· * ·) 140 1 o o2 lv qs hs ho ho2 hl (fun i hi=>(hFB i hi).le (by decide)) (fun i hi v1 v2 h1 h2 h3 h4=>FProd_tr _ _ v1 v2 _ _ h1 h2 h3 h4 (hP i hi) (hFB i hi))
 have e1:dg (1:Rat).num.natAbs = [1]:=by rw [show (1:Rat).num.natAbs = 1 from rfl,dg_pos (by decide)];rw [show 1 / 18446744073709551616 = 0 from rfl,dg_zero]
 have e2:dg (1:Rat).den = [1]:=by rw [show (1:Rat).den = 1 from rfl,dg_pos (by decide)];rw [show 1 / 18446744073709551616 = 0 from rfl,dg_zero]
 rw [e1,e2] at hF
 unfold FQ2 at hF ⊢
 generalize qs.foldl (· * ·) (1:Rat) = p at *
 refine Tr.enter env _ Tryz.func79 (by kernel_rfl) rfl Tryz.ntmps79 rfl (by repeat (first | exact has00 | refine has01 ?_)) fun w0=>?_
 repeat' first|(refine gca ?_;first|(refine ca one_tr ?_;rintro o _ ⟨ho,rfl⟩))|refine al fun c=>?_|refine bdm ?_|(refine wo ?_;first|refine oa ?_)|refine sq ?_|refine rg ?_|refine xc ?_|refine nl ?_
 rename_i oo hoo
 repeat' first|(refine gca ?_;first|(refine ca (hF oo o hoo ho) ?_;rintro _ _ ⟨vn,vd,rfl,hvn,hvd,rfl⟩))|refine srz ?_|(refine wo ?_;first|refine oa ?_)|refine xc ?_|refine nl ?_|refine rt ?_
 exact rca (cs:=[.bool (decide (p.num < 0)),vn,vd]) (vs:=[.bool (decide (p.num < 0)),vn,vd]) (T:=TRt) ⟨vn,vd,rfl,hvn,hvd,rfl⟩
end Go.Art
namespace Go.Art
open Go Go.Proofs Go.RowKit
theorem dg_grow_len {a x L:Nat} (h:(dg a).length ≤ L) (hx:x < 18446744073709551616):(dg (a * x)).length ≤ L + 1:=(dg_len _ _).2 (by
 rw [Nat.pow_succ];exact Nat.mul_lt_mul_of_lt_of_le ((dg_len _ _).1 h) (by omega) (by decide))
theorem sum_wOk {t:List Int} (h:∀ w ∈ t,0 ≤ w∧w ≤ 16777215):0 ≤ t.sum∧t.sum ≤ 16777215 * t.length:=sum_bound h
theorem sum_posT {t:List Int} (h:∀ w ∈ t,0 ≤ w∧w ≤ 16777215) (hp:∃ w ∈ t,0 < w):0 < t.sum:=by
 induction t with
 | nil=>obtain ⟨w,hw,_⟩:=hp;cases hw
 | cons a r ih=>
  have h1:=h a (by simp)
  have h2:=sum_bound (t:=r) fun w hw=>h w (by simp [hw])
  rw [List.sum_cons]
  obtain ⟨w,hw,hw0⟩:=hp
  rcases List.mem_cons.1 hw with rfl | hw
  ·omega
  ·have:=ih (fun w hw=>h w (by simp [hw])) ⟨w,hw,hw0⟩;omega
attribute [local irreducible] Fit pt own ro vw mpc lpt vels rels mow lrc dfr
attribute [local irreducible] lmp lme mit velg relg
theorem ChaW_tr (s:Value) (t:List Int) (k d:Int):Tr Tryz.prog 78 [s,I k,I d] [vw s (Is t)] [] (FW (chaW t k d)):=by
 have hck:=SoCheck_tr s t k
 by_cases hk:solE t k = 0
 rotate_left
 ·unfold chaW
  rw [if_neg hk]
  rw [(solE_cases t k).resolve_left hk] at hck
  refine Tr.mono (R:=fun u D=>u = tup2 rv0 (I 13)∧D = [own T64 nS (Us []),own T64 nS (Us [])]) ?_ fun u D h=>FW.of0 h
  refine Tr.enter env _ Tryz.func78 (by kernel_rfl) rfl Tryz.ntmps78 rfl (by repeat (first | exact has00 | refine has01 ?_)) fun w0=>?_
  repeat' first|(refine gca ?_;first|(refine ca hck ?_;rintro _ _ ⟨rfl,rfl⟩))|refine al fun b2=>?_|refine bdm ?_|refine srz ?_|(refine wo ?_;first|(refine ao ?_;first|refine oa ?_)|refine oa ?_)|(refine gc ?_;first|refine ct ?_)|refine sq ?_|refine rg ?_|refine xc ?_|refine nl ?_|refine bk ?_|refine rt ?_
  refine TX.im (own_nil T64 _) (TX.im (own_nil T64 _) ?_)
  exact rca (cs:=[.bool false,nS,nS]) (vs:=[.bool false,nS,nS]) (T:=TRt) ⟨rfl,rfl⟩
 rw [hk] at hck
 obtain ⟨⟨k1,k2⟩,⟨t1,t2⟩,hw,hpos⟩:=solE_zero hk
 by_cases hd:d < 1∨t.length < d
 ·unfold chaW
  rw [if_pos hk,if_pos hd]
  clear hk hpos
  refine Tr.mono (R:=fun u D=>u = tup2 rv0 (I 3)∧D = [own T64 nS (Us []),own T64 nS (Us [])]) ?_ fun u D h=>FW.of0 h
  refine Tr.enter env _ Tryz.func78 (by kernel_rfl) rfl Tryz.ntmps78 rfl (by repeat (first | exact has00 | refine has01 ?_)) fun w0=>?_
  repeat' first|(refine gca ?_;first|(refine ca hck ?_;rintro _ _ ⟨rfl,rfl⟩))|refine al fun b2=>?_|refine bdm ?_|refine srz ?_|(refine wo ?_;first|(refine ao ?_;first|refine oa ?_)|refine oa ?_|refine lnm ?_|refine gy ?_|refine gn ?_|(refine gsi (fun hB=>?_) (fun hB=>?_) <;> try (exfalso;omega)))|(refine gc ?_;first|refine ct ?_|refine cf ?_|(refine ci (fun hB=>?_) (fun hB=>?_) <;> try (exfalso;omega)))|refine sq ?_|refine rg ?_|refine xc ?_|refine nl ?_|refine bk ?_|refine rt ?_
  all_goals
   refine TX.im (own_nil T64 _) (TX.im (own_nil T64 _) ?_)
   exact rca (cs:=[.bool false,nS,nS]) (vs:=[.bool false,nS,nS]) (T:=TRt) ⟨rfl,rfl⟩
 rw [show chaW t k d = (rqf (mkRat (t.getD (d - 1).toNat 0) (chs k.toNat d.toNat * t.sum.toNat)),0) by unfold chaW;rw [if_pos hk,if_neg hd]]
 obtain ⟨kn,rfl⟩ : ∃ kn:Nat,k = kn:=⟨k.toNat,by omega⟩
 obtain ⟨dn,rfl⟩ : ∃ dn:Nat,d = dn:=⟨d.toNat,by omega⟩
 have hT:=SoTotal_tr s t ⟨by omega,by omega⟩ hw
 have hsb:=sum_wOk hw
 have hsp:0 < t.sum:=sum_posT hw hpos
 obtain ⟨tn,htn⟩ : ∃ tn:Nat,t.sum = tn:=⟨t.sum.toNat,by omega⟩
 rw [htn] at hT hsb hsp ⊢
 have hwb:=hw (t.getD ((dn:Int) - 1).toNat 0) (mem_getD.2 ⟨_,by omega,rfl⟩)
 obtain ⟨wn,hwn⟩ : ∃ wn:Nat,t.getD ((dn:Int) - 1).toNat 0 = wn:=⟨(t.getD ((dn:Int) - 1).toNat 0).toNat,by omega⟩
 rw [hwn] at hwb ⊢
 simp only [Int.toNat_natCast]
 have hF:=Choose_tr kn dn (by omega) (by omega)
 have hfl:=chs_len kn dn
 have hfp:=chs_pos (n:=kn) (k:=dn) (by omega)
 obtain ⟨f0,hf0⟩ : ∃ f0,f0 = chs kn dn:=⟨_,rfl⟩
 rw [← hf0] at hF hfl hfp ⊢
 have hG1:=fun v=>NGrow_tr v (dg f0) tn (Dg_dg _) (by omega) (by omega)
 have hl2:=dg_grow_len (x:=tn) hfl (by omega)
 have hp2:f0 * tn ≠ 0:=Nat.mul_ne_zero hfp (by omega)
 have hw1:=dg_len1 (n:=wn) (by omega)
 have hM:=fun o=>IMake_tr false o (dg wn) (Dg_dg wn) (by omega)
 have hs:sg false wn = (wn:Int):=rfl
 have hR:=fun o dv=>FMake_tr (wn:Int) o dv (dg (f0 * tn)) (Dg_dg _) (by unfold dz;rw [Int.natAbs_natCast];omega) (by omega) (by rw [nv_dg];exact hp2)
 simp only [nv_dg,hs] at hG1 hM hR
 unfold IR at hM
 unfold dz at hR
 simp only [Int.natAbs_natCast] at hM hR
 unfold FQ2 at hR
 clear hk hpos hf0 hfp hp2 hl2 hs hw
 obtain ⟨f1,hf1⟩ : ∃ f1,f1 = f0 * tn:=⟨_,rfl⟩
 simp only [← hf1] at hG1 hR ⊢
 obtain ⟨q,hq⟩ : ∃ q,q = mkRat (wn:Int) f1:=⟨_,rfl⟩
 simp only [← hq] at hR ⊢
 clear hq hf1
 refine Tr.enter env _ Tryz.func78 (by kernel_rfl) rfl Tryz.ntmps78 rfl (by repeat (first | exact has00 | refine has01 ?_)) fun w0=>?_
 repeat' first|(refine gca ?_;first|(refine ca hck ?_;rintro _ _ ⟨rfl,rfl⟩)|(refine ca hF ?_;rintro _ _ ⟨o,rfl,ho,rfl⟩)|(refine ca (Of_tr wn (by omega)) ?_;rintro o1 _ ⟨ho1,rfl⟩)|(refine ca (hM o1) ?_;rintro _ _ ⟨o2,rfl,ho2,rfl⟩)|(refine ca hT ?_;rintro _ _ ⟨rfl,rfl⟩)|(refine ca (hG1 o) ?_;rintro u1 _ ⟨hu1,rfl⟩)|(refine ca (hR o2 u1) ?_;rintro _ _ ⟨vn,vd,rfl,hvn,hvd,rfl⟩))|refine al fun b2=>?_|(refine lie hwn ?_)|(refine ntu (m:=(wn:Int)) ?_;rw [Int.toNat_natCast])|(refine ntu (m:=(tn:Int)) ?_;rw [Int.toNat_natCast])|refine srz ?_|(refine wo ?_;first|(refine ao ?_;first|refine aw ?_|refine oa ?_)|refine oa ?_|refine lnm ?_|refine ixm ?_|refine gy ?_|(refine gsi (fun hB=>?_) (fun hB=>?_) <;> try (exfalso;omega)))|(refine gc ?_;first|refine cf ?_|(refine ci (fun hB=>?_) (fun hB=>?_) <;> try (exfalso;omega)))|refine sq ?_|refine rg ?_|refine xc ?_|refine nl ?_|refine sk ?_|refine bk ?_|refine rt ?_|refine xb ?_
 exact rca (cs:=[.bool (decide (q.num < 0)),vn,vd]) (vs:=[.bool (decide (q.num < 0)),vn,vd]) (T:=TRt) ⟨vn,vd,rfl,hvn,hvd,rfl⟩
end Go.Art
