/- Texts put together: Ak Mk KPick KSame Qr Qs Gl Gs Qv Qw KCopy KOver Qx Rz Rv Ry Fr Sr K StopA StopB StopC StopD StopE StopF StopG. Conditions: none. -/
import Derived.Test.YtadfljaebfbccaaGreatWDe
set_option linter.unusedSimpArgs false
set_option linter.unusedVariables false
namespace Go.Art
open Go
def Rep (h S:List Int):Prop:=Heap h∧h.Perm S∧S.Pairwise (· ≤ ·)
theorem Rep.head {h S:List Int} {a:Int} (r:Rep h (a :: S)):h.getD 0 0 = a:=by
 obtain ⟨h1,h2,h3⟩:=r
 obtain ⟨h4,h5⟩:=List.pairwise_cons.1 h3
 have ha:a ∈ h:=h2.mem_iff.2 (by simp)
 obtain ⟨j,hj,e⟩:=mem_getD.1 ha
 have hl:=h1.head j hj
 have h0:h.getD 0 0 ∈ a :: S:=h2.mem_iff.1 (mem_getD.2 ⟨0,by omega,rfl⟩)
 rcases List.mem_cons.1 h0 with h0 | h0
 ·exact h0
 ·have:=h4 _ h0;omega
theorem Rep.pop {h h' S:List Int} {a:Int} (r:Rep h (a :: S)) (hh:Heap h') (hp:h.Perm (h.getD 0 0 :: h')):Rep h' S:=by
 have e:=r.head
 obtain ⟨h1,h2,h3⟩:=r
 rw [e] at hp
 exact ⟨hh,List.Perm.cons_inv (hp.symm.trans h2),(List.pairwise_cons.1 h3).2⟩
theorem Rep.push {h h' S:List Int} (r:Rep h S) (x:Int) (hh:Heap h') (hp:h'.Perm (x :: h)):Rep h' (srt (x :: S)):=
 ⟨hh,(hp.trans (List.Perm.cons x r.2.1)).trans (srt_perm _).symm,srt_sorted _⟩
theorem Rep.nil:Rep [] []:=⟨fun j _ h=>by simp at h,List.Perm.refl _,.nil⟩
theorem Rep.len {h S:List Int} (r:Rep h S):h.length = S.length:=r.2.1.length_eq
structure AlS where
 rest:List Int
 cut:List Int
 oth:List Int
 B:List Int
 A:List Int
def alStep (all:Int) (u:AlS) (i j:Int) (B A:List Int):AlS:=
 let ri:=u.rest.getD i.toNat 0
 let r:=u.rest.getD j.toNat 0 - (all - ri)
 ⟨u.rest.set j.toNat r,u.cut.set i.toNat ri,u.oth.set i.toNat j,if r > all then B else if r < all then srt (j :: B) else B,if r > all then j :: A else A⟩
def alRun (all:Int):Nat→AlS→AlS
 | 0,u=>u
 | f + 1,u=>match u.B,u.A with
  | i :: B,j :: A=>alRun all f (alStep all u i j B A)
  | _,_=>u
def alIn (t:List Int) (all:Int):Nat→AlS
 | 0=>⟨List.replicate t.length 0,List.replicate t.length 0,List.replicate t.length 0,[],[]⟩
 | i + 1=>let u:=alIn t all i
  let r:=t.getD i 0 * t.length
  ⟨u.rest.set i r,u.cut.set i all,u.oth.set i i,if r < all then srt ((i:Int) :: u.B) else u.B,if r < all then u.A else if r > all then srt ((i:Int) :: u.A) else u.A⟩
structure AlI (t:List Int) (all:Int) (u:AlS):Prop where
 lr:u.rest.length = t.length
 lc:u.cut.length = t.length
 lo:u.oth.length = t.length
 nd:(u.B ++ u.A).Nodup
 B:∀ i ∈ u.B,(0 ≤ i∧i < t.length)∧0 ≤ u.rest.getD i.toNat 0∧u.rest.getD i.toNat 0 < all
 A:∀ j ∈ u.A,(0 ≤ j∧j < t.length)∧all < u.rest.getD j.toNat 0∧u.rest.getD j.toNat 0 ≤ 1099511627776∧0 < t.getD j.toNat 0
 sum:(u.B.map fun i=>all - u.rest.getD i.toNat 0).sum = (u.A.map fun j=>u.rest.getD j.toNat 0 - all).sum
 cut:∀ c:Nat,c < t.length→0 ≤ u.cut.getD c 0∧u.cut.getD c 0 ≤ all
 oth:∀ c:Nat,c < t.length→(0 ≤ u.oth.getD c 0∧u.oth.getD c 0 < t.length)∧(u.cut.getD c 0 = all∨0 < t.getD (u.oth.getD c 0).toNat 0)
 zero:∀ c:Nat,c < t.length→¬ 0 < t.getD c 0→u.rest.getD c 0 = 0∧((c:Int) ∈ u.B∨u.cut.getD c 0 = 0)
theorem sum_pos {l:List Int} {f:Int→Int} (h:∀ x ∈ l,0 < f x) (hl:l ≠ []):0 < (l.map f).sum:=by
 induction l with
 | nil=>exact absurd rfl hl
 | cons a r ih=>
  have h1:=h a (by simp)
  simp only [List.map_cons,List.sum_cons]
  by_cases hr:r = []
  ·subst hr;simp;omega
  ·have:=ih (fun x hx=>h x (by simp [hx])) hr;omega
theorem AlI.more {t:List Int} {all:Int} {u:AlS} (h:AlI t all u) (hB:u.B ≠ []):u.A ≠ []:=fun hA=>by
 have h1:=sum_pos (l:=u.B) (f:=fun i=>all - u.rest.getD i.toNat 0) (fun i hi=>by have:=(h.B i hi).2;omega) hB
 have h2:=h.sum
 rw [hA] at h2
 simp only [List.map_nil,List.sum_nil] at h2
 omega
theorem getD_setI (l:List Int) (i j:Int) (x:Int) (hi:0 ≤ i∧i < l.length) (hj:0 ≤ j):(l.set i.toNat x).getD j.toNat 0 = if j = i then x else l.getD j.toNat 0:=by
 rw [getD_set _ _ _ _ (by omega)]
 by_cases e:j = i
 ·subst e;rw [if_pos rfl,if_pos rfl]
 ·rw [if_neg e,if_neg (by omega)]
theorem map_sum_congr {l:List Int} {f g:Int→Int} (h:∀ x ∈ l,f x = g x):(l.map f).sum = (l.map g).sum:=by rw [List.map_congr_left h]
theorem perm_sum {l m:List Int} (h:l.Perm m):l.sum = m.sum:=by
 induction h with
 | nil=>rfl
 | cons x _ ih=>simp [ih]
 | swap x y l=>simp only [List.sum_cons];omega
 | trans _ _ a b=>exact a.trans b
theorem srt_sum (x:Int) (B:List Int) (f:Int→Int):((srt (x :: B)).map f).sum = f x + (B.map f).sum:=by
 rw [perm_sum ((srt_perm (x :: B)).map f)];rfl
theorem AlI.step {t:List Int} {all:Int} {u:AlS} {i j:Int} {B A:List Int} (h:AlI t all u) (ha:0 < all∧all ≤ 1099511627776) (hB:u.B = i :: B) (hA:u.A = j :: A):AlI t all (alStep all u i j B A):=by
 have hbi:=h.B i (by rw [hB];simp)
 have haj:=h.A j (by rw [hA];simp)
 have hnd:=h.nd
 rw [hB,hA] at hnd
 have hsum:=h.sum
 rw [hB,hA] at hsum
 simp only [List.map_cons,List.sum_cons] at hsum
 have hlr:=h.lr
 have hlc:=h.lc
 have hlo:=h.lo
 obtain ⟨n1,n2,n3⟩:=List.nodup_append.1 hnd
 obtain ⟨hiB,nB⟩:=List.nodup_cons.1 n1
 obtain ⟨hjA,nA⟩:=List.nodup_cons.1 n2
 have hij:i ≠ j:=n3 i (by simp) j (by simp)
 have hiA:i ∉ A:=fun hm=>n3 i (by simp) i (by simp [hm]) rfl
 have hjB:j ∉ B:=fun hm=>n3 j (by simp [hm]) j (by simp) rfl
 have hBA:∀ x ∈ B,∀ y ∈ A,x ≠ y:=fun x hx y hy=>n3 x (by simp [hx]) y (by simp [hy])
 have hBm:∀ x,x ∈ u.B ↔ x = i∨x ∈ B:=fun x=>by rw [hB,List.mem_cons]
 have hAm:∀ x,x ∈ u.A ↔ x = j∨x ∈ A:=fun x=>by rw [hA,List.mem_cons]
 generalize hri:u.rest.getD i.toNat 0 = ri at *
 generalize hrj:u.rest.getD j.toNat 0 = rj at *
 obtain ⟨⟨i0,i1⟩,i2,i3⟩:=hbi
 obtain ⟨⟨j0,j1⟩,j2,j3,j4⟩:=haj
 have hr:∀ x:Int,0 ≤ x→(u.rest.set j.toNat (rj - (all - ri))).getD x.toNat 0 = if x = j then rj - (all - ri) else u.rest.getD x.toNat 0:=fun x hx=>getD_setI _ _ _ _ (by omega) hx
 have hrB:∀ x ∈ B,(u.rest.set j.toNat (rj - (all - ri))).getD x.toNat 0 = u.rest.getD x.toNat 0:=fun x hx=>by rw [hr x (h.B x ((hBm x).2 (.inr hx))).1.1,if_neg (show ¬ x = j from fun e=>hjB (by rw [← e];exact hx))]
 have hrA:∀ x ∈ A,(u.rest.set j.toNat (rj - (all - ri))).getD x.toNat 0 = u.rest.getD x.toNat 0:=fun x hx=>by rw [hr x (h.A x ((hAm x).2 (.inr hx))).1.1,if_neg (show ¬ x = j from fun e=>hjA (by rw [← e];exact hx))]
 have hrjj:=hr j j0
 rw [if_pos rfl] at hrjj
 have hcs:∀ c:Nat,c < t.length→(u.cut.set i.toNat ri).getD c 0 = if (c:Int) = i then ri else u.cut.getD c 0:=fun c hc=>by
  have:=getD_setI u.cut i c ri (by omega) (by omega)
  simpa using this
 have hos:∀ c:Nat,c < t.length→(u.oth.set i.toNat j).getD c 0 = if (c:Int) = i then j else u.oth.getD c 0:=fun c hc=>by
  have:=getD_setI u.oth i c j (by omega) (by omega)
  simpa using this
 have hsB:=map_sum_congr (l:=B) (f:=fun x=>all - (u.rest.set j.toNat (rj - (all - ri))).getD x.toNat 0) (g:=fun x=>all - u.rest.getD x.toNat 0) (fun x hx=>by rw [hrB x hx])
 have hsA:=map_sum_congr (l:=A) (f:=fun x=>(u.rest.set j.toNat (rj - (all - ri))).getD x.toNat 0 - all) (g:=fun x=>u.rest.getD x.toNat 0 - all) (fun x hx=>by rw [hrA x hx])
 have hcut:∀ c:Nat,c < t.length→0 ≤ (u.cut.set i.toNat ri).getD c 0∧(u.cut.set i.toNat ri).getD c 0 ≤ all:=fun c hc=>by
  rw [hcs c hc];split
  ·omega
  ·exact h.cut c hc
 have hoth:∀ c:Nat,c < t.length→(0 ≤ (u.oth.set i.toNat j).getD c 0∧(u.oth.set i.toNat j).getD c 0 < t.length)∧((u.cut.set i.toNat ri).getD c 0 = all∨0 < t.getD ((u.oth.set i.toNat j).getD c 0).toNat 0):=fun c hc=>by
  rw [hos c hc,hcs c hc];split
  ·exact ⟨⟨j0,j1⟩,.inr j4⟩
  ·exact h.oth c hc
 have hzero:∀ c:Nat,c < t.length→¬ 0 < t.getD c 0→(u.rest.set j.toNat (rj - (all - ri))).getD c 0 = 0∧((c:Int) ∈ B∨(u.cut.set i.toNat ri).getD c 0 = 0):=fun c hc hp=>by
  obtain ⟨z1,z2⟩:=h.zero c hc hp
  have hcj:(c:Int) ≠ j:=fun e=>by rw [← e] at j4;exact hp (by simpa using j4)
  have e1:=hr c (by omega)
  rw [if_neg hcj] at e1
  rw [Int.toNat_natCast] at e1
  refine ⟨e1.trans z1,?_⟩
  rw [hcs c hc]
  by_cases hci:(c:Int) = i
  ·rw [if_pos hci];right
   rw [← hri,← hci,Int.toNat_natCast];exact z1
  ·rw [if_neg hci]
   rcases z2 with z2 | z2
   ·exact .inl (((hBm _).1 z2).resolve_left hci)
   ·exact .inr z2
 have hBk:∀ x ∈ B,(0 ≤ x∧x < t.length)∧0 ≤ (u.rest.set j.toNat (rj - (all - ri))).getD x.toNat 0∧(u.rest.set j.toNat (rj - (all - ri))).getD x.toNat 0 < all:=fun x hx=>by rw [hrB x hx];exact h.B x ((hBm x).2 (.inr hx))
 have hAk:∀ x ∈ A,(0 ≤ x∧x < t.length)∧all < (u.rest.set j.toNat (rj - (all - ri))).getD x.toNat 0∧(u.rest.set j.toNat (rj - (all - ri))).getD x.toNat 0 ≤ 1099511627776∧0 < t.getD x.toNat 0:=fun x hx=>by rw [hrA x hx];exact h.A x ((hAm x).2 (.inr hx))
 unfold alStep
 rw [hri,hrj]
 dsimp only
 by_cases c1:rj - (all - ri) > all
 ·rw [if_pos c1,if_pos c1]
  refine ⟨by simp [hlr],by simp [hlc],by simp [hlo],?_,hBk,fun x hx=>?_,?_,hcut,hoth,hzero⟩
  ·refine List.nodup_append.2 ⟨nB,List.nodup_cons.2 ⟨hjA,nA⟩,fun a ha b hb=>?_⟩
   rcases List.mem_cons.1 hb with rfl | hb
   ·exact fun e=>hjB (e ▸ ha)
   ·exact hBA a ha b hb
  ·rcases List.mem_cons.1 hx with rfl | hx
   ·dsimp only;rw [hrjj];exact ⟨⟨j0,j1⟩,by omega,by omega,j4⟩
   ·exact hAk x hx
  ·dsimp only
   rw [List.map_cons,List.sum_cons,hsB,hsA,hrjj];omega
 ·rw [if_neg c1,if_neg c1]
  by_cases c2:rj - (all - ri) < all
  ·rw [if_pos c2]
   have hsm:∀ x,x ∈ srt (j :: B) ↔ x = j∨x ∈ B:=fun x=>by rw [(srt_perm _).mem_iff,List.mem_cons]
   refine ⟨by simp [hlr],by simp [hlc],by simp [hlo],?_,fun x hx=>?_,hAk,?_,hcut,hoth,fun c hc hp=>⟨(hzero c hc hp).1,(hzero c hc hp).2.imp (fun hm=>(hsm _).2 (.inr hm)) id⟩⟩
   ·refine List.nodup_append.2 ⟨(srt_perm _).nodup_iff.2 (List.nodup_cons.2 ⟨hjB,nB⟩),nA,fun a ha b hb=>?_⟩
    rcases (hsm a).1 ha with rfl | ha
    ·exact fun e=>hjA (e ▸ hb)
    ·exact hBA a ha b hb
   ·rcases (hsm x).1 hx with rfl | hx
    ·dsimp only;rw [hrjj];exact ⟨⟨j0,j1⟩,by omega,by omega⟩
    ·exact hBk x hx
   ·dsimp only
    rw [srt_sum,hsB,hsA,hrjj];omega
  ·rw [if_neg c2]
   refine ⟨by simp [hlr],by simp [hlc],by simp [hlo],?_,hBk,hAk,?_,hcut,hoth,hzero⟩
   ·exact List.nodup_append.2 ⟨nB,nA,hBA⟩
   ·dsimp only
    rw [hsB,hsA];omega
structure AlJ (t:List Int) (all:Int) (n:Nat) (u:AlS):Prop where
 lr:u.rest.length = t.length
 lc:u.cut.length = t.length
 lo:u.oth.length = t.length
 nd:(u.B ++ u.A).Nodup
 B:∀ i ∈ u.B,(0 ≤ i∧i < n)∧0 ≤ u.rest.getD i.toNat 0∧u.rest.getD i.toNat 0 < all
 A:∀ j ∈ u.A,(0 ≤ j∧j < n)∧all < u.rest.getD j.toNat 0∧u.rest.getD j.toNat 0 ≤ 1099511627776∧0 < t.getD j.toNat 0
 sum:(u.B.map fun i=>all - u.rest.getD i.toNat 0).sum - (u.A.map fun j=>u.rest.getD j.toNat 0 - all).sum = n * all - t.length * (t.take n).sum
 cut:∀ c:Nat,c < n→u.cut.getD c 0 = all
 oth:∀ c:Nat,c < n→u.oth.getD c 0 = c
 zero:∀ c:Nat,c < n→¬ 0 < t.getD c 0→u.rest.getD c 0 = 0∧(c:Int) ∈ u.B
theorem AlJ.start (t:List Int) (all:Int):AlJ t all 0 (alIn t all 0):=⟨by simp [alIn],by simp [alIn],by simp [alIn],by simp [alIn],by simp [alIn],by simp [alIn],by simp [alIn],fun c h=>by omega,fun c h=>by omega,fun c h=>by omega⟩
theorem AlJ.step {t:List Int} {all:Int} {n:Nat} (hw:∀ w ∈ t,0 ≤ w∧w ≤ 16777215) (hl:t.length ≤ 65536) (ha:0 < all) (hn:n < t.length) (h:AlJ t all n (alIn t all n)):AlJ t all (n + 1) (alIn t all (n + 1)):=by
 have hb:=hw _ (mem_getD.2 ⟨n,hn,rfl⟩)
 have hts:(t.take (n + 1)).sum = (t.take n).sum + t.getD n 0:=by rw [take_succ' hn 0,List.sum_append];simp
 unfold alIn
 generalize alIn t all n = u at *
 obtain ⟨h1,h2,h3,h4,h5,h6,h7,h8,h9,h10⟩:=h
 have hr0:0 ≤ t.getD n 0 * t.length:=Int.mul_nonneg hb.1 (by omega)
 have hr1:t.getD n 0 * t.length ≤ 16777215 * 65536:=Int.mul_le_mul hb.2 (by omega) (by omega) (by omega)
 have hr2:t.getD n 0 * t.length = t.length * t.getD n 0:=Int.mul_comm _ _
 have hr3:¬ 0 < t.getD n 0→t.getD n 0 * t.length = 0:=fun hz=>by rw [show t.getD n 0 = 0 by omega,Int.zero_mul]
 have hS:((n + 1:Nat):Int) * all - t.length * (t.take (n + 1)).sum = n * all + all - (t.length * (t.take n).sum + t.getD n 0 * (t.length:Int)):=by
  rw [hts,Int.mul_add,← hr2,show ((n + 1:Nat):Int) = (n:Int) + 1 by omega,Int.add_mul,Int.one_mul]
 generalize hr:t.getD n 0 * (t.length:Int) = r at *
 dsimp only
 have G:∀ x:Int,0 ≤ x→(u.rest.set n r).getD x.toNat 0 = if x = n then r else u.rest.getD x.toNat 0:=fun x hx=>by
  have:=getD_setI u.rest n x r (by omega) hx
  rwa [Int.toNat_natCast] at this
 have GB:∀ x ∈ u.B,(u.rest.set n r).getD x.toNat 0 = u.rest.getD x.toNat 0:=fun x hx=>by rw [G x (h5 x hx).1.1,if_neg (by have:=(h5 x hx).1;omega)]
 have GA:∀ x ∈ u.A,(u.rest.set n r).getD x.toNat 0 = u.rest.getD x.toNat 0:=fun x hx=>by rw [G x (h6 x hx).1.1,if_neg (by have:=(h6 x hx).1;omega)]
 have Gn:=G n (by omega)
 rw [if_pos rfl] at Gn
 have hnB:(n:Int) ∉ u.B:=fun hm=>by have:=(h5 _ hm).1;omega
 have hnA:(n:Int) ∉ u.A:=fun hm=>by have:=(h6 _ hm).1;omega
 have hsB:=map_sum_congr (l:=u.B) (f:=fun x=>all - (u.rest.set n r).getD x.toNat 0) (g:=fun x=>all - u.rest.getD x.toNat 0) (fun x hx=>by rw [GB x hx])
 have hsA:=map_sum_congr (l:=u.A) (f:=fun x=>(u.rest.set n r).getD x.toNat 0 - all) (g:=fun x=>u.rest.getD x.toNat 0 - all) (fun x hx=>by rw [GA x hx])
 have hBk:∀ x ∈ u.B,(0 ≤ x∧x < (n + 1:Nat))∧0 ≤ (u.rest.set n r).getD x.toNat 0∧(u.rest.set n r).getD x.toNat 0 < all:=fun x hx=>by
  rw [GB x hx];have:=h5 x hx;exact ⟨by omega,this.2⟩
 have hAk:∀ x ∈ u.A,(0 ≤ x∧x < (n + 1:Nat))∧all < (u.rest.set n r).getD x.toNat 0∧(u.rest.set n r).getD x.toNat 0 ≤ 1099511627776∧0 < t.getD x.toNat 0:=fun x hx=>by
  rw [GA x hx];have:=h6 x hx;exact ⟨by omega,this.2⟩
 have hcut:∀ c:Nat,c < n + 1→(u.cut.set n all).getD c 0 = all:=fun c hc=>by
  rw [getD_set _ _ _ _ (by omega)];split
  ·rfl
  ·exact h8 c (by omega)
 have hoth:∀ c:Nat,c < n + 1→(u.oth.set n (n:Int)).getD c 0 = c:=fun c hc=>by
  rw [getD_set _ _ _ _ (by omega)];split
  ·omega
  ·exact h9 c (by omega)
 have hz:∀ c:Nat,c < n→¬ 0 < t.getD c 0→(u.rest.set n r).getD c 0 = 0∧(c:Int) ∈ u.B:=fun c hc hp=>by
  obtain ⟨z1,z2⟩:=h10 c hc hp
  rw [getD_set _ _ _ _ (by omega),if_neg (by omega)];exact ⟨z1,z2⟩
 obtain ⟨n1,n2,n3⟩:=List.nodup_append.1 h4
 by_cases c1:r < all
 ·rw [if_pos c1,if_pos c1]
  have hsm:∀ x,x ∈ srt ((n:Int) :: u.B) ↔ x = n∨x ∈ u.B:=fun x=>by rw [(srt_perm _).mem_iff,List.mem_cons]
  refine ⟨by simp [h1],by simp [h2],by simp [h3],?_,fun x hx=>?_,hAk,?_,hcut,hoth,fun c hc hp=>?_⟩
  ·refine List.nodup_append.2 ⟨(srt_perm _).nodup_iff.2 (List.nodup_cons.2 ⟨hnB,n1⟩),n2,fun a ha' b hb'=>?_⟩
   rcases (hsm a).1 ha' with rfl | ha'
   ·exact fun e=>hnA (by rw [e];exact hb')
   ·exact n3 a ha' b hb'
  ·rcases (hsm x).1 hx with rfl | hx
   ·dsimp only;rw [Gn];exact ⟨by omega,by omega,by omega⟩
   ·exact hBk x hx
  ·dsimp only;rw [srt_sum,hsB,hsA,Gn,hS];omega
  ·by_cases e:c = n
   ·subst e
    rw [Int.toNat_natCast] at Gn
    exact ⟨Gn.trans (hr3 hp),(hsm _).2 (.inl rfl)⟩
   ·exact ⟨(hz c (by omega) hp).1,(hsm _).2 (.inr (hz c (by omega) hp).2)⟩
 ·rw [if_neg c1,if_neg c1]
  have hp1:0 < t.getD n 0:=Classical.byContradiction fun hp=>by have:=hr3 hp;omega
  have hzk:∀ c:Nat,c < n + 1→¬ 0 < t.getD c 0→(u.rest.set n r).getD c 0 = 0∧(c:Int) ∈ u.B:=fun c hc hp=>by
   by_cases e:c = n
   ·subst e;exact absurd hp1 hp
   ·exact hz c (by omega) hp
  by_cases c2:r > all
  ·rw [if_pos c2]
   have hsm:∀ x,x ∈ srt ((n:Int) :: u.A) ↔ x = n∨x ∈ u.A:=fun x=>by rw [(srt_perm _).mem_iff,List.mem_cons]
   refine ⟨by simp [h1],by simp [h2],by simp [h3],?_,hBk,fun x hx=>?_,?_,hcut,hoth,hzk⟩
   ·refine List.nodup_append.2 ⟨n1,(srt_perm _).nodup_iff.2 (List.nodup_cons.2 ⟨hnA,n2⟩),fun a ha' b hb'=>?_⟩
    rcases (hsm b).1 hb' with rfl | hb'
    ·exact fun e=>hnB (by rw [← e];exact ha')
    ·exact n3 a ha' b hb'
   ·rcases (hsm x).1 hx with rfl | hx
    ·dsimp only;rw [Gn,Int.toNat_natCast];exact ⟨by omega,by omega,by omega,hp1⟩
    ·exact hAk x hx
   ·dsimp only;rw [srt_sum,hsB,hsA,Gn,hS];omega
  ·rw [if_neg c2]
   refine ⟨by simp [h1],by simp [h2],by simp [h3],h4,hBk,hAk,?_,hcut,hoth,hzk⟩
   dsimp only;rw [hsB,hsA,hS];omega
theorem AlJ.all {t:List Int} {all:Int} (hw:∀ w ∈ t,0 ≤ w∧w ≤ 16777215) (hl:t.length ≤ 65536) (ha:0 < all):∀ n:Nat,n ≤ t.length→AlJ t all n (alIn t all n)
 | 0,_=>AlJ.start t all
 | n + 1,h=>AlJ.step hw hl ha h (AlJ.all hw hl ha n (by omega))
theorem AlJ.done {t:List Int} {u:AlS} (ha:0 < t.sum) (h:AlJ t t.sum t.length u):AlI t t.sum u:=by
 refine ⟨h.lr,h.lc,h.lo,h.nd,h.B,h.A,?_,fun c hc=>?_,fun c hc=>?_,fun c hc hp=>?_⟩
 ·have:=h.sum
  rw [List.take_length] at this
  omega
 ·rw [h.cut c hc];omega
 ·rw [h.cut c hc,h.oth c hc];exact ⟨by omega,.inl rfl⟩
 ·exact ⟨(h.zero c hc hp).1,.inl (h.zero c hc hp).2⟩
def alMu (u:AlS):Nat:=u.B.length + 2 * u.A.length
theorem alStep_mu {all:Int} {u:AlS} {i j:Int} {B A:List Int} (hB:u.B = i :: B) (hA:u.A = j :: A):alMu (alStep all u i j B A) < alMu u:=by
 unfold alMu alStep
 dsimp only
 rw [hB,hA]
 split
 ·simp only [List.length_cons];omega
 ·split
  ·rw [srt_length];simp only [List.length_cons];omega
  ·simp only [List.length_cons];omega
theorem alRun_more {all:Int} (f:Nat):∀ (g:Nat) (u:AlS),alMu u ≤ f→alMu u ≤ g→alRun all f u = alRun all g u:=by
 have key:∀ (f:Nat) (u:AlS),alMu u = 0→alRun all f u = u:=fun f u h=>by
  cases f with
  | zero=>rfl
  | succ f=>
   unfold alRun
   have:u.B = []:=List.eq_nil_of_length_eq_zero (by unfold alMu at h;omega)
   rw [this]
 induction f with
 | zero=>intro g u h1 _;rw [key 0 u (by omega),key g u (by omega)]
 | succ f ih=>
  intro g u h1 h2
  cases g with
  | zero=>rw [key (f + 1) u (by omega),key 0 u (by omega)]
  | succ g=>
   unfold alRun
   split
   ·rename_i i B j A hB hA
    have:=alStep_mu (all:=all) hB hA
    exact ih g _ (by omega) (by omega)
   ·rfl
def alEnd (all:Int) (u:AlS):AlS:=alRun all (alMu u) u
theorem alEnd_stop {all:Int} {u:AlS} (h:u.B = []):alEnd all u = u:=by
 unfold alEnd
 cases alMu u with
 | zero=>rfl
 | succ f=>unfold alRun;rw [h]
theorem alEnd_step {all:Int} {u:AlS} {i j:Int} {B A:List Int} (hB:u.B = i :: B) (hA:u.A = j :: A):alEnd all u = alEnd all (alStep all u i j B A):=by
 have hm:=alStep_mu (all:=all) hB hA
 unfold alEnd
 obtain ⟨k,hk⟩ : ∃ k,alMu u = k + 1:=⟨alMu u - 1,by omega⟩
 rw [hk]
 conv=>lhs;unfold alRun
 rw [hB,hA]
 exact alRun_more _ _ _ (by omega) (Nat.le_refl _)
theorem AlI.end {t:List Int} {all:Int} (ha:0 < all∧all ≤ 1099511627776) (m:Nat):∀ u,alMu u ≤ m→AlI t all u→AlI t all (alEnd all u)∧(alEnd all u).B = []:=by
 induction m with
 | zero=>
  intro u hm h
  have hB:u.B = []:=List.eq_nil_of_length_eq_zero (by unfold alMu at hm;omega)
  rw [alEnd_stop hB];exact ⟨h,hB⟩
 | succ m ih=>
  intro u hm h
  cases hB:u.B with
  | nil=>rw [alEnd_stop hB];exact ⟨h,hB⟩
  | cons i B=>
   cases hA:u.A with
   | nil=>exact absurd hA (h.more (by rw [hB];simp))
   | cons j A=>
    have:=alStep_mu (all:=all) hB hA
    rw [alEnd_step hB hA]
    exact ih _ (by omega) (h.step ha hB hA)
def alF (t:List Int):AlS:=alEnd t.sum (alIn t t.sum t.length)
theorem alF_ok {t:List Int} (hw:∀ w ∈ t,0 ≤ w∧w ≤ 16777215) (hl:1 ≤ t.length∧t.length ≤ 65536) (ha:0 < t.sum):alE t.sum (alF t).cut (alF t).oth = 0∧(alF t).cut.length = t.length∧∀ c l:Int,0 ≤ c∧c < t.length→0 ≤ l∧l < t.sum→0 < t.getD (alPick t.sum (alF t).cut (alF t).oth c l).toNat 0:=by
 have hs:=sum_bound hw
 have hall:0 < t.sum∧t.sum ≤ 1099511627776:=by omega
 obtain ⟨hI,hB⟩:=AlI.end hall _ _ (Nat.le_refl _) ((AlJ.all hw hl.2 ha t.length (Nat.le_refl _)).done ha)
 change AlI t t.sum (alF t) at hI
 change (alF t).B = [] at hB
 generalize alF t = u at *
 refine ⟨?_,hI.lc,fun c l hc hl'=>?_⟩
 ·unfold alE
  rw [if_neg (by rw [hI.lc,hI.lo];omega),if_neg]
  rw [Bool.or_eq_true,List.any_eq_true,List.any_eq_true]
  rintro (⟨x,hx,hb⟩ | ⟨x,hx,hb⟩)
  ·obtain ⟨c,hc,rfl⟩:=mem_getD.1 hx
   have:=hI.cut c (by rw [← hI.lc];exact hc)
   have hb:=of_decide_eq_true hb
   omega
  ·obtain ⟨c,hc,rfl⟩:=mem_getD.1 hx
   have:=(hI.oth c (by rw [← hI.lo];exact hc)).1
   have hb:=of_decide_eq_true hb
   rw [hI.lc] at hb
   omega
 ·have h1:=hI.oth c.toNat (by omega)
  have h2:=hI.zero c.toNat (by omega)
  unfold alPick
  split
  ·rename_i hlt
   refine Classical.byContradiction fun hn=>?_
   have:=(h2 hn).2
   rw [hB] at this
   rcases this with h | h
   ·cases h
   ·omega
  ·rename_i hlt
   rcases h1.2 with h | h
   ·omega
   ·exact h
open Go Go.Proofs Go.RowKit
attribute [local irreducible] Fit pt own ro vw mpc lpt vels rels mow lrc dfr
attribute [local irreducible] lmp lme mit velg relg
structure MkG where
 i:Nat
 hb:List Int
 ha:List Int
 bv:Value
 av:Value
structure MkH where
 u:AlS
 hb:List Int
 ha:List Int
 bv:Value
 av:Value
theorem alIn_len (t:List Int) (all:Int):∀ n,(alIn t all n).B.length + (alIn t all n).A.length ≤ n
 | 0=>by simp [alIn]
 | n + 1=>by
  have:=alIn_len t all n
  unfold alIn
  dsimp only
  split
  ·rw [srt_length,List.length_cons];omega
  ·split
   ·rw [srt_length,List.length_cons];omega
   ·omega
theorem alStep_len {all:Int} {u:AlS} {i j:Int} {B A:List Int} (hB:u.B = i :: B) (hA:u.A = j :: A):(alStep all u i j B A).B.length + (alStep all u i j B A).A.length ≤ u.B.length + u.A.length:=by
 unfold alStep
 dsimp only
 rw [hB,hA]
 split
 ·simp only [List.length_cons];omega
 ·split
  ·rw [srt_length];simp only [List.length_cons];omega
  ·simp only [List.length_cons];omega
theorem setI_get (l:List Int) (i:Nat) (x:Int) (h:i < l.length):(l.set i x).getD i 0 = x:=by rw [getD_set _ _ _ _ h,if_pos rfl]
theorem Make_tr (s:Value) (t:List Int) (hl:1 ≤ t.length∧t.length ≤ 65536) (hw:∀ w ∈ t,0 ≤ w∧w ≤ 16777215) (hpos:0 < t.sum):Tr Tryz.prog 48 [s] [vw s (Is t)] []
  fun v D=>∃ cv ov,v = tup2 (.agg #[I t.sum,cv,ov]) (I 0)∧D = [own 3 cv (Is (alF t).cut),own 3 ov (Is (alF t).oth)]∧cv.oneCell' = true∧ov.oneCell' = true:=by
 have hsb:=sum_bound hw
 refine Tr.enter env _ Tryz.func48 (by kernel_rfl) rfl Tryz.ntmps48 rfl (by repeat (first | exact has00 | refine has01 ?_)) fun w0=>?_
 repeat' first|(refine gca ?_;first|(refine ca (Total_tr s t hl hw) ?_;rintro _ _ ⟨rfl,rfl⟩))|refine al fun br=>?_|refine sq_cutX (a:=.region 4 _ _) (ι:=Nat × Value × Value) (fun i=>i.2.1.oneCell' = true∧i.2.2.oneCell' = true) (fun i=>[(0,s),(2,ptr br),(4,I t.length),(5,I t.sum),(6,ptr i.1)]) (fun i=>[vw s (Is t),pt br [I 0,nS,nS] TAl,pt i.1 [I t.sum,i.2.1,i.2.2] TAl,own 3 i.2.1 (Is (List.replicate t.length 0)),own 3 i.2.2 (Is (List.replicate t.length 0))]) ?_ (fun kb=>?_)|refine rs (id:=4) (fun _=>True) ?_ (fun _ _=>trivial)|(refine wo ?_;first|(refine ao ?_;first|refine oa ?_)|refine oa ?_|refine lnm ?_)|(refine gc ?_;first|(refine ci (fun hB=>?_) (fun hB=>?_) <;> try (exfalso;omega)))|refine sq ?_|refine rg ?_|refine xc ?_|refine nl ?_|refine sk ?_
 rotate_left
 ·refine tka 0 ?_
  refine tka 1 ?_
  refine tka 3 ?_
  refine t3 2 4 6 ?_ ?_ ?_
  ·refine mki fun cv=>?_
   refine TO.one (v:=cv) (xs:=Is (List.replicate (t.length:Int).toNat 0)) fun hcv=>?_
   repeat' first|refine nl ?_
   refine te (fun _ _=>trivial) ?_
   refine t2 4 6 ?_ ?_
   ·refine mki fun ov=>?_
    refine TO.one (v:=ov) (xs:=Is (List.replicate (t.length:Int).toNat 0)) fun hov=>?_
    repeat' first|refine nl ?_
    refine te (fun _ _=>trivial) ?_
    refine t2 5 6 ?_ ?_
    ·refine bdz ?_
     repeat' first|refine nl ?_
     refine te (fun _ _=>trivial) ?_
     refine t1 6 ?_
     refine al fun bo=>?_
     repeat' first|refine nl ?_
     refine te (fun _ _=>trivial) ?_
     refine t1 7 ?_
     refine srz ?_
     repeat' first|refine nl ?_
     refine te (fun _ _=>trivial) ?_
     refine t0 ?_
     refine xc ?_
     exact kb (bo,cv,ov) ⟨hcv,hov⟩ _ _ (by (repeat (refine Sub.cons rfl (by first | rfl | go_num) ?_));exact Sub.nil) fitA
    ·refine al fun bo=>?_
     repeat' first|refine nl ?_
     refine te (fun _ _=>trivial) ?_
     refine t1 5 ?_
     refine bdz ?_
     repeat' first|refine nl ?_
     refine te (fun _ _=>trivial) ?_
     refine t1 7 ?_
     refine srz ?_
     repeat' first|refine nl ?_
     refine te (fun _ _=>trivial) ?_
     refine t0 ?_
     refine xc ?_
     exact kb (bo,cv,ov) ⟨hcv,hov⟩ _ _ (by (repeat (refine Sub.cons rfl (by first | rfl | go_num) ?_));exact Sub.nil) fitA
   ·refine al fun bo=>?_
    repeat' first|refine nl ?_
    refine te (fun _ _=>trivial) ?_
    refine t1 4 ?_
    refine mki fun ov=>?_
    refine TO.one (v:=ov) (xs:=Is (List.replicate (t.length:Int).toNat 0)) fun hov=>?_
    repeat' first|refine nl ?_
    refine te (fun _ _=>trivial) ?_
    refine t1 5 ?_
    refine bdz ?_
    repeat' first|refine nl ?_
    refine te (fun _ _=>trivial) ?_
    refine t1 7 ?_
    refine srz ?_
    repeat' first|refine nl ?_
    refine te (fun _ _=>trivial) ?_
    refine t0 ?_
    refine xc ?_
    exact kb (bo,cv,ov) ⟨hcv,hov⟩ _ _ (by (repeat (refine Sub.cons rfl (by first | rfl | go_num) ?_));exact Sub.nil) fitA
  ·refine mki fun ov=>?_
   refine TO.one (v:=ov) (xs:=Is (List.replicate (t.length:Int).toNat 0)) fun hov=>?_
   repeat' first|refine nl ?_
   refine te (fun _ _=>trivial) ?_
   refine t2 2 6 ?_ ?_
   ·refine mki fun cv=>?_
    refine TO.one (v:=cv) (xs:=Is (List.replicate (t.length:Int).toNat 0)) fun hcv=>?_
    repeat' first|refine nl ?_
    refine te (fun _ _=>trivial) ?_
    refine t2 5 6 ?_ ?_
    ·refine bdz ?_
     repeat' first|refine nl ?_
     refine te (fun _ _=>trivial) ?_
     refine t1 6 ?_
     refine al fun bo=>?_
     repeat' first|refine nl ?_
     refine te (fun _ _=>trivial) ?_
     refine t1 7 ?_
     refine srz ?_
     repeat' first|refine nl ?_
     refine te (fun _ _=>trivial) ?_
     refine t0 ?_
     refine xc ?_
     exact kb (bo,cv,ov) ⟨hcv,hov⟩ _ _ (by (repeat (refine Sub.cons rfl (by first | rfl | go_num) ?_));exact Sub.nil) fitA
    ·refine al fun bo=>?_
     repeat' first|refine nl ?_
     refine te (fun _ _=>trivial) ?_
     refine t1 5 ?_
     refine bdz ?_
     repeat' first|refine nl ?_
     refine te (fun _ _=>trivial) ?_
     refine t1 7 ?_
     refine srz ?_
     repeat' first|refine nl ?_
     refine te (fun _ _=>trivial) ?_
     refine t0 ?_
     refine xc ?_
     exact kb (bo,cv,ov) ⟨hcv,hov⟩ _ _ (by (repeat (refine Sub.cons rfl (by first | rfl | go_num) ?_));exact Sub.nil) fitA
   ·refine al fun bo=>?_
    repeat' first|refine nl ?_
    refine te (fun _ _=>trivial) ?_
    refine t1 2 ?_
    refine mki fun cv=>?_
    refine TO.one (v:=cv) (xs:=Is (List.replicate (t.length:Int).toNat 0)) fun hcv=>?_
    repeat' first|refine nl ?_
    refine te (fun _ _=>trivial) ?_
    refine t1 5 ?_
    refine bdz ?_
    repeat' first|refine nl ?_
    refine te (fun _ _=>trivial) ?_
    refine t1 7 ?_
    refine srz ?_
    repeat' first|refine nl ?_
    refine te (fun _ _=>trivial) ?_
    refine t0 ?_
    refine xc ?_
    exact kb (bo,cv,ov) ⟨hcv,hov⟩ _ _ (by (repeat (refine Sub.cons rfl (by first | rfl | go_num) ?_));exact Sub.nil) fitA
  ·refine al fun bo=>?_
   repeat' first|refine nl ?_
   refine te (fun _ _=>trivial) ?_
   refine t2 2 4 ?_ ?_
   ·refine mki fun cv=>?_
    refine TO.one (v:=cv) (xs:=Is (List.replicate (t.length:Int).toNat 0)) fun hcv=>?_
    repeat' first|refine nl ?_
    refine te (fun _ _=>trivial) ?_
    refine t1 4 ?_
    refine mki fun ov=>?_
    refine TO.one (v:=ov) (xs:=Is (List.replicate (t.length:Int).toNat 0)) fun hov=>?_
    repeat' first|refine nl ?_
    refine te (fun _ _=>trivial) ?_
    refine t1 5 ?_
    refine bdz ?_
    repeat' first|refine nl ?_
    refine te (fun _ _=>trivial) ?_
    refine t1 7 ?_
    refine srz ?_
    repeat' first|refine nl ?_
    refine te (fun _ _=>trivial) ?_
    refine t0 ?_
    refine xc ?_
    exact kb (bo,cv,ov) ⟨hcv,hov⟩ _ _ (by (repeat (refine Sub.cons rfl (by first | rfl | go_num) ?_));exact Sub.nil) fitA
   ·refine mki fun ov=>?_
    refine TO.one (v:=ov) (xs:=Is (List.replicate (t.length:Int).toNat 0)) fun hov=>?_
    repeat' first|refine nl ?_
    refine te (fun _ _=>trivial) ?_
    refine t1 2 ?_
    refine mki fun cv=>?_
    refine TO.one (v:=cv) (xs:=Is (List.replicate (t.length:Int).toNat 0)) fun hcv=>?_
    repeat' first|refine nl ?_
    refine te (fun _ _=>trivial) ?_
    refine t1 5 ?_
    refine bdz ?_
    repeat' first|refine nl ?_
    refine te (fun _ _=>trivial) ?_
    refine t1 7 ?_
    refine srz ?_
    repeat' first|refine nl ?_
    refine te (fun _ _=>trivial) ?_
    refine t0 ?_
    refine xc ?_
    exact kb (bo,cv,ov) ⟨hcv,hov⟩ _ _ (by (repeat (refine Sub.cons rfl (by first | rfl | go_num) ?_));exact Sub.nil) fitA
 rintro ⟨bo,cv,ov⟩ ⟨hcv,hov⟩
 dsimp only at hcv hov ⊢
 repeat' first|refine mki fun rv=>?_|(refine wo ?_;first|refine oa ?_)|refine sq ?_|refine rg ?_|refine xc ?_|refine nl ?_
 refine TO.one (v:=rv) (xs:=Is (List.replicate (t.length:Int).toNat 0)) fun hrv=>?_
 repeat' first|refine al fun pa=>?_|(refine wo ?_;first|refine oa ?_|refine lnm ?_)|refine sq ?_|refine rg ?_|refine xc ?_|refine nl ?_|refine bk ?_
 rename_i pb
 refine TC.im (own_nil 3 _) ?_
 refine TC.im (own_nil 3 _) ?_
 have hall:=AlJ.all hw hl.2 hpos
 have hln:=alIn_len t t.sum
 refine TC.loop (ι:=MkG) (fun g=>[(31,I g.i)]) (fun g=>[own 3 rv (Is (alIn t t.sum g.i).rest),own 3 cv (Is (alIn t t.sum g.i).cut),own 3 ov (Is (alIn t t.sum g.i).oth),pt pb [g.bv] THp,own 3 g.bv (Is g.hb),pt pa [g.av] THp,own 3 g.av (Is g.ha)])
  (fun g=>g.i ≤ t.length∧Rep g.hb (alIn t t.sum g.i).B∧Rep g.ha (alIn t t.sum g.i).A) (fun g=>t.length - g.i) ⟨0,[],[],nS,nS⟩ [0,2,4,5,6,7,8,9,29,30] ⟨Nat.zero_le _,Rep.nil,Rep.nil⟩ ?_
 rintro ⟨i,hb,ha,bv,av⟩ ⟨hi,hrb,hra⟩
 dsimp only at hi hrb hra ⊢
 by_cases hlt:i < t.length
 ·have hst:alIn t t.sum (i + 1) = ⟨(alIn t t.sum i).rest.set i (t.getD i 0 * t.length),(alIn t t.sum i).cut.set i t.sum,(alIn t t.sum i).oth.set i i,if t.getD i 0 * t.length < t.sum then srt ((i:Int) :: (alIn t t.sum i).B) else (alIn t t.sum i).B,if t.getD i 0 * t.length < t.sum then (alIn t t.sum i).A else if t.getD i 0 * t.length > t.sum then srt ((i:Int) :: (alIn t t.sum i).A) else (alIn t t.sum i).A⟩:=rfl
  have hJ:=hall i hi
  have hL:=hln i
  have hx:=hw _ (mem_getD.2 ⟨i,hlt,rfl⟩)
  have hr0:0 ≤ t.getD i 0 * t.length:=Int.mul_nonneg hx.1 (by omega)
  have hr1:t.getD i 0 * t.length ≤ 16777215 * 65536:=Int.mul_le_mul hx.2 (by omega) (by omega) (by omega)
  have hu1:=hJ.lr
  have hu2:=hJ.lc
  have hu3:=hJ.lo
  clear hJ hall hln
  generalize alIn t t.sum i = U at *
  generalize hxe:t.getD i 0 = x at *
  generalize hre:x * (t.length:Int) = r at *
  have hq:=setI_get U.rest i r (by omega)
  have hbl:=hrb.len
  have hal:=hra.len
  repeat' first|refine lie hxe ?_|refine rs (id:=10) (fun w=>w.heap[bo]? = some (.cells #[I t.sum,cv,ov] TAl (0,0))∧(∃ xs,Sl w rv xs∧xs.length = t.length)∧(∃ xs,Sl w cv xs∧xs.length = t.length)∧(∃ xs,Sl w ov xs∧xs.length = t.length)) ?_ (fun w hw=>⟨pt_at memA hw,⟨_,has_sl hw hasA,by rw [Is_len];exact hu1⟩,⟨_,has_sl hw hasA,by rw [Is_len];exact hu2⟩,⟨_,has_sl hw hasA,by rw [Is_len];exact hu3⟩⟩)|(refine wo ?_;first|(refine ao ?_;first|refine oa ?_)|refine oa ?_|refine ixmn ?_)|(refine gc ?_;first|(refine ci (fun hB=>?_) (fun hB=>?_) <;> try (exfalso;omega)))|refine sq ?_|refine rg ?_|refine xc ?_|refine nl ?_|refine sk ?_|refine bk ?_
  refine tka 0 ?_
  refine tka 1 ?_
  refine tka 2 ?_
  refine tkl 3 (cs:=[I t.sum,cv,ov]) (fun w h=>h.1) ?_
  refine tka 4 ?_
  refine tka 5 ?_
  refine tkl 6 (cs:=[I t.sum,cv,ov]) (fun w h=>h.1) ?_
  refine tka 7 ?_
  refine tka 8 ?_
  refine tka 9 ?_
  refine tkw 10 r ?_
  refine tka 11 ?_
  refine tka 12 ?_
  refine tkx 13 (len:=t.length) (fun w h=>h.2.1) ?_
  refine t1 14 ?_
  refine soi (m:=r) (l:=U.rest) (j:=i) ?_
  repeat' first|refine nl ?_
  refine te (fun w hw=>⟨pt_at memA hw,⟨_,has_sl hw hasA,by rw [Is_len];first | assumption | (rw [List.length_set];assumption)⟩,⟨_,has_sl hw hasA,by rw [Is_len];first | assumption | (rw [List.length_set];assumption)⟩,⟨_,has_sl hw hasA,by rw [Is_len];first | assumption | (rw [List.length_set];assumption)⟩⟩) ?_
  refine tkx 15 (len:=t.length) (fun w h=>h.2.2.1) ?_
  refine t1 16 ?_
  refine soi (m:=t.sum) (l:=U.cut) (j:=i) ?_
  repeat' first|refine nl ?_
  refine te (fun w hw=>⟨pt_at memA hw,⟨_,has_sl hw hasA,by rw [Is_len];first | assumption | (rw [List.length_set];assumption)⟩,⟨_,has_sl hw hasA,by rw [Is_len];first | assumption | (rw [List.length_set];assumption)⟩,⟨_,has_sl hw hasA,by rw [Is_len];first | assumption | (rw [List.length_set];assumption)⟩⟩) ?_
  refine tkx 17 (len:=t.length) (fun w h=>h.2.2.2) ?_
  refine t1 18 ?_
  refine soi (m:=i) (l:=U.oth) (j:=i) ?_
  repeat' first|refine nl ?_
  refine te (fun w hw=>⟨pt_at memA hw,⟨_,has_sl hw hasA,by rw [Is_len];first | assumption | (rw [List.length_set];assumption)⟩,⟨_,has_sl hw hasA,by rw [Is_len];first | assumption | (rw [List.length_set];assumption)⟩,⟨_,has_sl hw hasA,by rw [Is_len];first | assumption | (rw [List.length_set];assumption)⟩⟩) ?_
  refine t0 ?_
  have hu1':i < (U.rest.set i r).length:=by rw [List.length_set,hu1];exact hlt
  by_cases c1:r < t.sum
  ·rw [if_pos c1,if_pos c1] at hst
   repeat' first|(refine gca ?_;first|(refine ca (push_tr pb bv hb i hrb.1 (by omega)) ?_;rintro _ _ ⟨bv',hb',rfl,hh,hp⟩))|refine lie hq ?_|(refine wo ?_;first|(refine ao ?_;first|refine aw ?_|refine oa ?_)|refine oa ?_|refine ixmn ?_)|(refine gc ?_;first|(refine ci (fun hB=>?_) (fun hB=>?_) <;> try (exfalso;omega)))|refine sq ?_|refine rg ?_|refine xc ?_|refine nl ?_|refine bk ?_|refine xb ?_
   refine lp ⟨i + 1,hb',ha,bv',av⟩ ⟨by dsimp only;omega,by dsimp only;rw [hst];exact hrb.push i hh hp,by dsimp only;rw [hst];exact hra⟩ (hf:=by dsimp only;rw [hst];exact fitA)
  ·rw [if_neg c1,if_neg c1] at hst
   by_cases c2:r > t.sum
   ·rw [if_pos c2] at hst
    repeat' first|(refine gca ?_;first|(refine ca (push_tr pa av ha i hra.1 (by omega)) ?_;rintro _ _ ⟨av',ha',rfl,hh,hp⟩))|refine lie hq ?_|(refine wo ?_;first|(refine ao ?_;first|refine aw ?_|refine oa ?_)|refine oa ?_|refine ixmn ?_)|(refine gc ?_;first|(refine ci (fun hB=>?_) (fun hB=>?_) <;> try (exfalso;omega)))|refine sq ?_|refine rg ?_|refine xc ?_|refine nl ?_|refine bk ?_|refine xb ?_
    refine lp ⟨i + 1,hb,ha',bv,av'⟩ ⟨by dsimp only;omega,by dsimp only;rw [hst];exact hrb,by dsimp only;rw [hst];exact hra.push i hh hp⟩ (hf:=by dsimp only;rw [hst];exact fitA)
   ·rw [if_neg c2] at hst
    repeat' first|refine lie hq ?_|(refine wo ?_;first|(refine ao ?_;first|refine aw ?_|refine oa ?_)|refine oa ?_|refine ixmn ?_)|(refine gc ?_;first|(refine ci (fun hB=>?_) (fun hB=>?_) <;> try (exfalso;omega)))|refine sq ?_|refine rg ?_|refine xc ?_|refine nl ?_|refine sk ?_|refine bk ?_|refine xb ?_
    refine lp ⟨i + 1,hb,ha,bv,av⟩ ⟨by dsimp only;omega,by dsimp only;rw [hst];exact hrb,by dsimp only;rw [hst];exact hra⟩ (hf:=by dsimp only;rw [hst];exact fitA)
 ·obtain rfl:i = t.length:=by omega
  have hI:=(hall t.length (Nat.le_refl _)).done hpos
  have hL:=hln t.length
  have hF:alEnd t.sum (alIn t t.sum t.length) = alF t:=rfl
  clear hall hln hlt hi
  repeat' first|(refine wo ?_;first|(refine ao ?_;first|refine oa ?_))|(refine gc ?_;first|(refine ci (fun hB=>?_) (fun hB=>?_) <;> try (exfalso;omega)))|refine sq ?_|refine rg ?_|refine xc ?_|refine nl ?_|refine bk ?_|refine xe ?_
  generalize alIn t t.sum t.length = U at *
  refine TC.loop (ι:=MkH) (fun _=>[]) (fun g=>[own 3 rv (Is g.u.rest),own 3 cv (Is g.u.cut),own 3 ov (Is g.u.oth),pt pb [g.bv] THp,own 3 g.bv (Is g.hb),pt pa [g.av] THp,own 3 g.av (Is g.ha)])
   (fun g=>AlI t t.sum g.u∧g.u.B.length + g.u.A.length ≤ t.length∧Rep g.hb g.u.B∧Rep g.ha g.u.A∧alEnd t.sum g.u = alF t) (fun g=>alMu g.u) ⟨U,hb,ha,bv,av⟩ [2,4,5,6,7,8,9] ⟨hI,hL,hrb,hra,hF⟩ ?_
  clear hI hL hrb hra hF
  rintro ⟨u,hb,ha,bv,av⟩ ⟨hI,hL,hrb,hra,hF⟩
  dsimp only at hI hL hrb hra hF ⊢
  have hmu:=fun (i j:Int) (B A:List Int) (h1:u.B = i :: B) (h2:u.A = j :: A)=>alStep_mu (all:=t.sum) h1 h2
  have hsl:=fun (i j:Int) (B A:List Int) (h1:u.B = i :: B) (h2:u.A = j :: A)=>alStep_len (all:=t.sum) h1 h2
  refine TC.leni (v:=bv) (l:=hb) fun hbl0=>?_
  cases hB:u.B with
  | nil=>
   have hbl:=hrb.len
   rw [hB,List.length_nil] at hbl
   rw [alEnd_stop hB] at hF
   subst hF
   repeat' first|refine lda ?_|refine srz ?_|(refine wo ?_;first|(refine ao ?_;first|refine oa ?_)|refine oa ?_|refine ld ?_|refine lnm ?_)|(refine gc ?_;first|(refine ci (fun hB=>?_) (fun hB=>?_) <;> try (exfalso;omega)))|refine sq ?_|refine rg ?_|refine xc ?_|refine nl ?_|refine xe ?_|refine rt ?_
   exact rca ⟨cv,ov,rfl,rfl,hcv,hov⟩
  | cons i B=>
   obtain ⟨j,A,hA⟩ : ∃ j A,u.A = j :: A:=by
    cases hA:u.A with
    | nil=>exact absurd hA (hI.more (by rw [hB];simp))
    | cons j A=>exact ⟨j,A,rfl⟩
   have hmu:=hmu i j B A hB hA
   have hsl:=hsl i j B A hB hA
   have hI':=hI.step (i:=i) (j:=j) (B:=B) (A:=A) (by omega) hB hA
   have hF':=(alEnd_step (all:=t.sum) hB hA).symm.trans hF
   have hbi:=hI.B i (by rw [hB];simp)
   have haj:=hI.A j (by rw [hA];simp)
   have hij:i ≠ j:=fun e=>by subst e;omega
   have hu1:=hI.lr
   have hu2:=hI.lc
   have hu3:=hI.lo
   have hbl:=hrb.len
   have hal:=hra.len
   rw [hB] at hrb hbl hL hsl
   rw [hA] at hra hal hL hsl
   have hbh:=hrb.head
   have hah:=hra.head
   rw [List.length_cons] at hbl hal hL hsl
   rw [List.length_cons] at hL hsl
   have hst:alStep t.sum u i j B A = ⟨u.rest.set j.toNat (u.rest.getD j.toNat 0 - (t.sum - u.rest.getD i.toNat 0)),u.cut.set i.toNat (u.rest.getD i.toNat 0),u.oth.set i.toNat j,if u.rest.getD j.toNat 0 - (t.sum - u.rest.getD i.toNat 0) > t.sum then B else if u.rest.getD j.toNat 0 - (t.sum - u.rest.getD i.toNat 0) < t.sum then srt (j :: B) else B,if u.rest.getD j.toNat 0 - (t.sum - u.rest.getD i.toNat 0) > t.sum then j :: A else A⟩:=rfl
   clear hI hF hB hA
   generalize alStep t.sum u i j B A = u' at *
   generalize hri:u.rest.getD i.toNat 0 = ri at *
   generalize hrj:u.rest.getD j.toNat 0 = rj at *
   generalize hre:rj - (t.sum - ri) = r at *
   obtain ⟨⟨i0,i1⟩,i2,i3⟩:=hbi
   obtain ⟨⟨j0,j1⟩,j2,j3,j4⟩:=haj
   have hq:=setI_get u.rest j.toNat r (by omega)
   have hu1':(u.rest.set j.toNat r).length = t.length:=by rw [List.length_set];exact hu1
   repeat' first|refine rs (id:=17) (fun w=>w.heap[pa]? = some (.cells #[av] THp (0,0))∧Sl w av (Is ha)) ?_ (fun w hw=>⟨pt_at memA hw,has_sl hw hasA⟩)|(refine wo ?_;first|(refine ao ?_;first|refine oa ?_)|refine ld ?_|refine lnm ?_)|(refine gc ?_;first|(refine ci (fun hB=>?_) (fun hB=>?_) <;> try (exfalso;omega)))|refine sq ?_|refine rg ?_|refine xc ?_|refine nl ?_|refine sk ?_|refine bk ?_
   refine tkl 1 (cs:=[av]) (fun w h=>h.1) ?_
   refine tkx 2 (len:=ha.length) (fun w h=>⟨_,h.2,Is_len ha⟩) ?_
   refine tkli 3 (fun w h=>h.2) hah ?_
   refine t1 0 ?_
   refine ca (pop_tr pb bv hb hrb.1 (by omega) (by omega)) ?_
   rintro _ _ ⟨bv1,hb1,rfl,rfl,hh1,hp1⟩
   have hrb1:=hrb.pop hh1 hp1
   have hbl1:=hrb1.len
   rw [hbh]
   repeat' first|refine nl ?_
   refine te (fun w hw=>⟨pt_at memA hw,has_sl hw hasA⟩) ?_
   refine tka 4 ?_
   refine tka 5 ?_
   refine t0 ?_
   repeat' first|refine rs (id:=18) (fun w=>w.heap[bo]? = some (.cells #[I t.sum,cv,ov] TAl (0,0))∧(∃ xs,Sl w cv xs∧xs.length = t.length)∧(∃ xs,Sl w ov xs∧xs.length = t.length)∧Sl w rv (Is u.rest)) ?_ (fun w hw=>⟨pt_at memA hw,⟨_,has_sl hw hasA,by rw [Is_len];first | assumption | (rw [List.length_set];assumption)⟩,⟨_,has_sl hw hasA,by rw [Is_len];first | assumption | (rw [List.length_set];assumption)⟩,has_sl hw hasA⟩)|refine sq ?_|refine xc ?_
   refine tka 0 ?_
   refine tkl 1 (cs:=[I t.sum,cv,ov]) (fun w h=>h.1) ?_
   refine tka 2 ?_
   refine tka 3 ?_
   refine tkl 4 (cs:=[I t.sum,cv,ov]) (fun w h=>h.1) ?_
   refine tka 5 ?_
   refine tka 6 ?_
   refine tka 7 ?_
   refine tkx 8 (len:=t.length) (fun w h=>⟨_,h.2.2.2,by rw [Is_len,hu1]⟩) ?_
   refine tkli 9 (fun w h=>h.2.2.2) hri ?_
   refine tka 10 ?_
   refine tkx 11 (len:=t.length) (fun w h=>h.2.1) ?_
   refine t1 12 ?_
   refine soi (m:=ri) (l:=u.cut) (j:=i.toNat) ?_
   repeat' first|refine nl ?_
   refine te (fun w hw=>⟨pt_at memA hw,⟨_,has_sl hw hasA,by rw [Is_len];first | assumption | (rw [List.length_set];assumption)⟩,⟨_,has_sl hw hasA,by rw [Is_len];first | assumption | (rw [List.length_set];assumption)⟩,has_sl hw hasA⟩) ?_
   refine tkx 13 (len:=t.length) (fun w h=>h.2.2.1) ?_
   refine t1 14 ?_
   refine soi (m:=j) (l:=u.oth) (j:=i.toNat) ?_
   repeat' first|refine nl ?_
   refine te (fun w hw=>⟨pt_at memA hw,⟨_,has_sl hw hasA,by rw [Is_len];first | assumption | (rw [List.length_set];assumption)⟩,⟨_,has_sl hw hasA,by rw [Is_len];first | assumption | (rw [List.length_set];assumption)⟩,has_sl hw hasA⟩) ?_
   refine t0 ?_
   repeat' first|refine rs (id:=19) (fun w=>∃ xs,Sl w rv xs∧xs.length = t.length) ?_ (fun w hw=>⟨_,has_sl hw hasA,by rw [Is_len];first | assumption | (rw [List.length_set];assumption)⟩)|refine sq ?_|refine xc ?_
   refine tka 0 ?_
   refine tka 1 ?_
   refine tkx 2 (len:=t.length) (fun w h=>h) ?_
   refine tka 4 ?_
   refine tka 5 ?_
   refine tka 6 ?_
   refine tkx 7 (len:=t.length) (fun w h=>h) ?_
   refine t2 3 8 ?_ ?_
   ·refine lie hrj ?_
    repeat' first|refine nl ?_
    refine te (fun w hw=>⟨_,has_sl hw hasA,by rw [Is_len];first | assumption | (rw [List.length_set];assumption)⟩) ?_
    refine t1 8 ?_
    refine lie hri ?_
    repeat' first|refine nl ?_
    refine te (fun w hw=>⟨_,has_sl hw hasA,by rw [Is_len];first | assumption | (rw [List.length_set];assumption)⟩) ?_
    refine tkw 9 (t.sum - ri) ?_
    refine tkw 10 r ?_
    refine tkx 11 (len:=t.length) (fun w h=>h) ?_
    refine t1 12 ?_
    refine soi (m:=r) (l:=u.rest) (j:=j.toNat) ?_
    repeat' first|refine nl ?_
    refine te (fun w hw=>⟨_,has_sl hw hasA,by rw [Is_len];first | assumption | (rw [List.length_set];assumption)⟩) ?_
    refine t0 ?_
    by_cases c1:r > t.sum
    ·rw [if_pos c1,if_pos c1] at hst
     repeat' first|refine lie hq ?_|(refine wo ?_;first|(refine ao ?_;first|refine oa ?_)|refine oa ?_|refine ixm ?_)|(refine gc ?_;first|(refine ci (fun hB=>?_) (fun hB=>?_) <;> try (exfalso;omega)))|refine sq ?_|refine rg ?_|refine xc ?_|refine nl ?_|refine xe ?_
     refine lp ⟨u',hb1,ha,bv1,av⟩ ⟨hI',by dsimp only;omega,by dsimp only;rw [hst];exact hrb1,by dsimp only;rw [hst];exact hra,hF'⟩ (hf:=by dsimp only;rw [hst];exact fitA) (hlt:=hmu)
    ·rw [if_neg c1,if_neg c1] at hst
     by_cases c2:r < t.sum
     ·rw [if_pos c2] at hst
      repeat' first|(refine gca ?_;first|(refine ca (pop_tr pa av ha hra.1 (by omega) (by omega)) ?_;rintro _ _ ⟨av1,ha1,rfl,rfl,hh2,hp2⟩;have hra1:=hra.pop hh2 hp2)|(refine ca (push_tr pb bv1 hb1 j hrb1.1 (by omega)) ?_;rintro _ _ ⟨bv2,hb2,rfl,hh3,hp3⟩;have hrb2:=hrb1.push j hh3 hp3))|refine lie hq ?_|(refine wo ?_;first|(refine ao ?_;first|refine oa ?_)|refine oa ?_|refine ixm ?_)|(refine gc ?_;first|(refine ci (fun hB=>?_) (fun hB=>?_) <;> try (exfalso;omega)))|refine sq ?_|refine rg ?_|refine xc ?_|refine nl ?_|refine sk ?_|refine xb ?_
      refine lp ⟨u',hb2,ha1,bv2,av1⟩ ⟨hI',by dsimp only;omega,by dsimp only;rw [hst];exact hrb2,by dsimp only;rw [hst];exact hra1,hF'⟩ (hf:=by dsimp only;rw [hst];exact fitA) (hlt:=hmu)
     ·rw [if_neg c2] at hst
      repeat' first|(refine gca ?_;first|(refine ca (pop_tr pa av ha hra.1 (by omega) (by omega)) ?_;rintro _ _ ⟨av1,ha1,rfl,rfl,hh2,hp2⟩;have hra1:=hra.pop hh2 hp2))|refine lie hq ?_|(refine wo ?_;first|(refine ao ?_;first|refine oa ?_)|refine oa ?_|refine ixm ?_)|(refine gc ?_;first|(refine ci (fun hB=>?_) (fun hB=>?_) <;> try (exfalso;omega)))|refine sq ?_|refine rg ?_|refine xc ?_|refine nl ?_|refine sk ?_|refine xb ?_
      refine lp ⟨u',hb1,ha1,bv1,av1⟩ ⟨hI',by dsimp only;omega,by dsimp only;rw [hst];exact hrb1,by dsimp only;rw [hst];exact hra1,hF'⟩ (hf:=by dsimp only;rw [hst];exact fitA) (hlt:=hmu)
   ·refine lie hri ?_
    repeat' first|refine nl ?_
    refine te (fun w hw=>⟨_,has_sl hw hasA,by rw [Is_len];first | assumption | (rw [List.length_set];assumption)⟩) ?_
    refine tkw 9 (t.sum - ri) ?_
    refine t1 3 ?_
    refine lie hrj ?_
    repeat' first|refine nl ?_
    refine te (fun w hw=>⟨_,has_sl hw hasA,by rw [Is_len];first | assumption | (rw [List.length_set];assumption)⟩) ?_
    refine tkw 10 r ?_
    refine tkx 11 (len:=t.length) (fun w h=>h) ?_
    refine t1 12 ?_
    refine soi (m:=r) (l:=u.rest) (j:=j.toNat) ?_
    repeat' first|refine nl ?_
    refine te (fun w hw=>⟨_,has_sl hw hasA,by rw [Is_len];first | assumption | (rw [List.length_set];assumption)⟩) ?_
    refine t0 ?_
    by_cases c1:r > t.sum
    ·rw [if_pos c1,if_pos c1] at hst
     repeat' first|refine lie hq ?_|(refine wo ?_;first|(refine ao ?_;first|refine oa ?_)|refine oa ?_|refine ixm ?_)|(refine gc ?_;first|(refine ci (fun hB=>?_) (fun hB=>?_) <;> try (exfalso;omega)))|refine sq ?_|refine rg ?_|refine xc ?_|refine nl ?_|refine xe ?_
     refine lp ⟨u',hb1,ha,bv1,av⟩ ⟨hI',by dsimp only;omega,by dsimp only;rw [hst];exact hrb1,by dsimp only;rw [hst];exact hra,hF'⟩ (hf:=by dsimp only;rw [hst];exact fitA) (hlt:=hmu)
    ·rw [if_neg c1,if_neg c1] at hst
     by_cases c2:r < t.sum
     ·rw [if_pos c2] at hst
      repeat' first|(refine gca ?_;first|(refine ca (pop_tr pa av ha hra.1 (by omega) (by omega)) ?_;rintro _ _ ⟨av1,ha1,rfl,rfl,hh2,hp2⟩;have hra1:=hra.pop hh2 hp2)|(refine ca (push_tr pb bv1 hb1 j hrb1.1 (by omega)) ?_;rintro _ _ ⟨bv2,hb2,rfl,hh3,hp3⟩;have hrb2:=hrb1.push j hh3 hp3))|refine lie hq ?_|(refine wo ?_;first|(refine ao ?_;first|refine oa ?_)|refine oa ?_|refine ixm ?_)|(refine gc ?_;first|(refine ci (fun hB=>?_) (fun hB=>?_) <;> try (exfalso;omega)))|refine sq ?_|refine rg ?_|refine xc ?_|refine nl ?_|refine sk ?_|refine xb ?_
      refine lp ⟨u',hb2,ha1,bv2,av1⟩ ⟨hI',by dsimp only;omega,by dsimp only;rw [hst];exact hrb2,by dsimp only;rw [hst];exact hra1,hF'⟩ (hf:=by dsimp only;rw [hst];exact fitA) (hlt:=hmu)
     ·rw [if_neg c2] at hst
      repeat' first|(refine gca ?_;first|(refine ca (pop_tr pa av ha hra.1 (by omega) (by omega)) ?_;rintro _ _ ⟨av1,ha1,rfl,rfl,hh2,hp2⟩;have hra1:=hra.pop hh2 hp2))|refine lie hq ?_|(refine wo ?_;first|(refine ao ?_;first|refine oa ?_)|refine oa ?_|refine ixm ?_)|(refine gc ?_;first|(refine ci (fun hB=>?_) (fun hB=>?_) <;> try (exfalso;omega)))|refine sq ?_|refine rg ?_|refine xc ?_|refine nl ?_|refine sk ?_|refine xb ?_
      refine lp ⟨u',hb1,ha1,bv1,av1⟩ ⟨hI',by dsimp only;omega,by dsimp only;rw [hst];exact hrb1,by dsimp only;rw [hst];exact hra1,hF'⟩ (hf:=by dsimp only;rw [hst];exact fitA) (hlt:=hmu)
end Go.Art
namespace Go.Art
open Go Go.Proofs Go.RowKit
attribute [local irreducible] Fit pt own ro vw mpc lpt vels rels mow lrc dfr
end Go.Art
namespace Go.Art
open Go Go.Proofs Go.RowKit
attribute [local irreducible] Fit pt own ro vw mpc lpt vels rels mow lrc dfr
theorem SameInts_tr (a b:Value) (xs ys:List Int):Tr Tryz.prog 16 [a,b] [vw a (Is xs),vw b (Is ys)] [] fun v D=>v = .bool (decide (xs = ys))∧D = []:=by
 refine Tr.enter env _ Tryz.func16 (by kernel_rfl) rfl Tryz.ntmps16 rfl (by repeat (first | exact has00 | refine has01 ?_)) fun w0=>?_
 refine TC.leni (l:=xs) fun hl=>?_
 repeat' first|(refine wo ?_;first|(refine ao ?_;first|refine oa ?_)|refine oa ?_|refine lnm ?_)|(refine gc ?_;first|(refine cn (fun hB=>?_) (fun hB=>?_) <;> try (exfalso;omega)))|refine sq ?_|refine rg ?_|refine xc ?_|refine nl ?_|refine sk ?_|refine bk ?_|refine rt ?_
 ·refine r1 ⟨?_,rfl⟩
  rw [decide_eq_false];intro e;subst e;omega
 ·refine TC.loop (ι:=Nat) (fun k=>[(5,I k)]) (fun _=>[]) (fun k=>k ≤ xs.length∧∀ j,j < k→xs.getD j 0 = ys.getD j 0) (fun k=>xs.length - k) 0 [0,1] ⟨by omega,by omega⟩ ?_
  rintro k ⟨hk,heq⟩
  repeat' first|(refine wo ?_;first|(refine ao ?_;first|refine aw ?_|refine oa ?_)|refine oa ?_|refine lnm ?_)|(refine gc ?_;first|(refine ci (fun hB=>?_) (fun hB=>?_) <;> try (exfalso;omega))|(refine cn (fun hB=>?_) (fun hB=>?_) <;> try (exfalso;omega)))|refine sq ?_|refine rg ?_|refine xc ?_|refine nl ?_|refine sk ?_|refine bk ?_|refine xe ?_|refine rt ?_|refine xb ?_|refine rq ?_|refine nq ?_|(refine wq ?_;first|(refine qao ?_;first|refine qa ?_)|refine qa ?_|refine qixmn ?_|refine qli ?_)
  ·refine r1 ⟨?_,rfl⟩
   rw [decide_eq_false];intro e;exact hB (by rw [e])
  ·refine lp (k + 1) ⟨by omega,fun j hj=>?_⟩
   by_cases hjk:j < k
   ·exact heq j hjk
   ·obtain rfl:j = k:=by omega
    assumption
  ·refine r1 ⟨?_,rfl⟩
   rw [decide_eq_true]
   exact eq_of_getD (by omega) (fun j hj=>heq j (by omega))
end Go.Art
namespace Go.Art
open Go Go.Proofs Go.RowKit
theorem eq_of_getDN {xs ys:List Nat} (hl:xs.length = ys.length) (h:∀ j,j < xs.length→xs.getD j 0 = ys.getD j 0):xs = ys:=by
 refine List.ext_getElem hl fun i h1 h2=>?_
 have:=h i h1
 simpa [List.getD_eq_getElem?_getD,h1,h2] using this
attribute [local irreducible] Fit pt own ro vw mpc lpt vels rels mow lrc dfr
attribute [local irreducible] lmp lme mit velg relg
theorem SameNat_tr (a b:Value) (xs ys:List Nat):Tr Tryz.prog 64 [a,b] [vw a (Us xs),vw b (Us ys)] [] fun v D=>v = .bool (decide (xs = ys))∧D = []:=by
 refine Tr.enter env _ Tryz.func64 (by kernel_rfl) rfl Tryz.ntmps64 rfl (by repeat (first | exact has00 | refine has01 ?_)) fun w0=>?_
 refine TC.lenu (l:=xs) fun hl=>?_
 repeat' first|(refine wo ?_;first|(refine ao ?_;first|refine oa ?_)|refine oa ?_|refine lnm ?_)|(refine gc ?_;first|(refine cn (fun hB=>?_) (fun hB=>?_) <;> try (exfalso;omega)))|refine sq ?_|refine rg ?_|refine xc ?_|refine nl ?_|refine sk ?_|refine bk ?_|refine rt ?_
 ·refine r1 ⟨?_,rfl⟩
  rw [decide_eq_false];intro e;subst e;omega
 ·refine TC.loop (ι:=Nat) (fun k=>[(5,I k)]) (fun _=>[]) (fun k=>k ≤ xs.length∧∀ j,j < k→xs.getD j 0 = ys.getD j 0) (fun k=>xs.length - k) 0 [0,1] ⟨by omega,by omega⟩ ?_
  rintro k ⟨hk,heq⟩
  repeat' first|(refine wo ?_;first|(refine ao ?_;first|refine aw ?_|refine oa ?_)|refine oa ?_|refine lnm ?_)|(refine gc ?_;first|(refine ci (fun hB=>?_) (fun hB=>?_) <;> try (exfalso;omega))|(refine cn (fun hB=>?_) (fun hB=>?_) <;> try (exfalso;omega)))|refine sq ?_|refine rg ?_|refine xc ?_|refine nl ?_|refine sk ?_|refine bk ?_|refine xe ?_|refine rt ?_|refine xb ?_|refine rq ?_|refine nq ?_|(refine wq ?_;first|(refine qao ?_;first|refine qa ?_)|refine qlu ?_|refine qa ?_|refine qixmn ?_)
  ·refine r1 ⟨?_,rfl⟩
   rw [decide_eq_false];intro e;exact hB (by rw [e])
  ·refine lp (k + 1) ⟨by omega,fun j hj=>?_⟩
   by_cases hjk:j < k
   ·exact heq j hjk
   ·obtain rfl:j = k:=by omega
    omega
  ·refine r1 ⟨?_,rfl⟩
   rw [decide_eq_true]
   exact eq_of_getDN (by omega) (fun j hj=>heq j (by omega))
theorem SameWhole_tr (b1 b2:Bool) (o1 o2:Value) (l1 l2:List Nat):Tr Tryz.prog 63 [.agg #[.bool b1,o1],.agg #[.bool b2,o2]] [vw o1 (Us l1),vw o2 (Us l2)] [] fun v D=>v = .bool (decide (b1 = b2∧l1 = l2))∧D = []:=by
 refine Tr.enter env _ Tryz.func63 (by kernel_rfl) rfl Tryz.ntmps63 rfl (by repeat (first | exact has00 | refine has01 ?_)) fun w0=>?_
 repeat' first|(refine gca ?_;first|(refine ca (SameNat_tr o1 o2 l1 l2) ?_;rintro _ _ ⟨rfl,rfl⟩))|refine bx fun q=>?_|(refine wo ?_;first|(refine ao ?_;first|refine ibe ?_)|refine oa ?_|refine ld ?_|refine gy ?_|refine gn ?_|(refine gsi (fun hB=>?_) (fun hB=>?_) <;> try (exfalso;omega)))|refine sq ?_|refine rg ?_|refine xc ?_|refine nl ?_|refine rt ?_
 ·have e:b1 = b2:=by simpa using hB
  refine r1 ⟨?_,rfl⟩
  congr 1;exact decide_eq_decide.2 ⟨fun h=>⟨e,h⟩,fun h=>h.2⟩
 ·have e:¬ b1 = b2:=by simpa using hB
  refine r1 ⟨?_,rfl⟩
  rw [decide_eq_false fun h=>e h.1]
theorem SameRatio_tr (t1 t2:Fr3) (n1 d1 n2 d2:Value):Tr Tryz.prog 29 [.agg #[.bool t1.1,n1,d1],.agg #[.bool t2.1,n2,d2]] [vw n1 (Us t1.2.1),vw d1 (Us t1.2.2),vw n2 (Us t2.2.1),vw d2 (Us t2.2.2)] []
  fun v D=>v = .bool (decide (t1 = t2))∧D = []:=by
 obtain ⟨b1,x1,y1⟩:=t1
 obtain ⟨b2,x2,y2⟩:=t2
 dsimp only
 refine Tr.enter env _ Tryz.func29 (by kernel_rfl) rfl Tryz.ntmps29 rfl (by repeat (first | exact has00 | refine has01 ?_)) fun w0=>?_
 repeat' first|(refine gca ?_;first|(refine ca (SameWhole_tr b1 b2 n1 n2 x1 x2) ?_;rintro _ _ ⟨rfl,rfl⟩)|(refine ca (SameNat_tr d1 d2 y1 y2) ?_;rintro _ _ ⟨rfl,rfl⟩))|refine bx fun q=>?_|refine lda ?_|(refine wo ?_;first|refine oa ?_|refine ld ?_|refine gy ?_|refine gn ?_|(refine gsi (fun hB=>?_) (fun hB=>?_) <;> try (exfalso;omega)))|refine sq ?_|refine rg ?_|refine xc ?_|refine nl ?_|refine rt ?_
 ·refine r1 ⟨?_,rfl⟩
  congr 1;refine decide_eq_decide.2 ⟨fun h=>by rw [hB.1,hB.2,h],fun h=>by injection h with _ h;injection h⟩
 ·refine r1 ⟨?_,rfl⟩
  rw [decide_eq_false fun h=>hB (by injection h with h1 h;injection h with h2 _;exact ⟨h1,h2⟩)]
end Go.Art
namespace Go.Art
open Go Go.Proofs Go.RowKit
attribute [local irreducible] Fit pt own ro vw mpc lpt vels rels mow lrc dfr
attribute [local irreducible] lmp lme mit velg relg
end Go.Art
namespace Go.Art
open Go Go.Proofs Go.RowKit
theorem mod_succ (M n:Nat) (hn:0 < n):(M % n = n - 1→(M + 1) % n = 0)∧(M % n ≠ n - 1→(M + 1) % n = M % n + 1):=by
 have h1:=Nat.div_add_mod M n
 have h2:=Nat.mod_lt M hn
 constructor
 ·intro e
  have:M + 1 = n * (M / n + 1):=by rw [Nat.mul_add];omega
  rw [this,Nat.mul_mod_right]
 ·intro e
  have:M + 1 = n * (M / n) + (M % n + 1):=by omega
  rw [this,Nat.mul_add_mod,Nat.mod_eq_of_lt (by omega)]
def over (n:Int):BitVec 64:=c64 18446744073709551615 % c64 n
theorem overR_toNat {n:Int} (h:1 ≤ n∧n ≤ 1099511627776):(over n).toNat = 18446744073709551615 % n.toNat:=by
 unfold over
 rw [BitVec.toNat_umod,c64_toNat (by omega),c64_toNat (by omega)]
 rfl
theorem over_last {n:Int} (h:1 ≤ n∧n ≤ 1099511627776) (e:over n = c64 n - c64 1):lim n.toNat = 18446744073709551615:=by
 have h1:=congrArg BitVec.toNat e
 rw [overR_toNat h,BitVec.toNat_sub,c64_toNat (by omega),c64_toNat (by omega)] at h1
 have h2:18446744073709551615 % n.toNat = n.toNat - 1:=by omega
 have h3:18446744073709551616 % n.toNat = 0:=(mod_succ 18446744073709551615 n.toNat (by omega)).1 h2
 unfold lim
 omega
theorem over_else {n:Int} (h:1 ≤ n∧n ≤ 1099511627776) (e:¬ over n = c64 n - c64 1):(c64 18446744073709551615 - over n).toNat = lim n.toNat + 1:=by
 have h0:=overR_toNat h
 have h2:18446744073709551615 % n.toNat ≠ n.toNat - 1:=fun q=>e (BitVec.eq_of_toNat_eq (by
  rw [h0,q,BitVec.toNat_sub,c64_toNat (by omega),c64_toNat (by omega)];omega))
 have h3:18446744073709551616 % n.toNat = 18446744073709551615 % n.toNat + 1:=(mod_succ 18446744073709551615 n.toNat (by omega)).2 h2
 have h4:=Nat.mod_lt 18446744073709551615 (show 0 < n.toNat by omega)
 have e64:Int.toNat 18446744073709551615 = 18446744073709551615:=rfl
 have e65:2 ^ 64 = 18446744073709551616:=rfl
 rw [BitVec.toNat_sub,h0,c64_toNat (by omega),e64,e65]
 unfold lim
 rw [h3]
 generalize 18446744073709551615 % n.toNat = m at *
 omega
attribute [local irreducible] Fit pt own ro vw mpc lpt vels rels mow lrc dfr
abbrev TRl:TypeId:=138
abbrev rloP (b:Nat) (st:BitVec 64) (used:Int):List Ch:=[pt b [nS,.bool true,U st,I used,.bool false] TRl]
theorem RStir_tr (x:BitVec 64):Tr Tryz.prog 176 [U x] [] [] fun v D=>v = U (stir x)∧D = []:=by
 refine Tr.enter env _ Tryz.func176 (by kernel_rfl) rfl Tryz.ntmps176 rfl (by repeat (first | exact has00 | refine has01 ?_)) fun w0=>?_
 repeat' first|refine uad ?_|refine uml ?_|refine uxr ?_|refine ush ?_|(refine wo ?_;first|refine oa ?_)|refine sq ?_|refine rg ?_|refine xc ?_|refine nl ?_|refine rt ?_
 exact r1 ⟨rfl,rfl⟩
theorem word_tr (b:Nat) (st:BitVec 64) (used:Int):Tr Tryz.prog 145 [ptr b] [] (rloP b st used) fun v D=>v = U (stir st)∧D = rloP b (st + gold) used:=by
 refine Tr.enter env _ Tryz.func145 (by kernel_rfl) rfl Tryz.ntmps145 rfl (by repeat (first | exact has00 | refine has01 ?_)) fun w0=>?_
 repeat' first|(refine gca ?_;first|(refine ca (RStir_tr _) ?_;rintro _ _ ⟨rfl,rfl⟩))|refine uad ?_|(refine wo ?_;first|refine oa ?_|refine ld ?_|refine sr ?_)|refine sq ?_|refine rg ?_|refine xc ?_|refine nl ?_|refine rt ?_
 exact r1 ⟨rfl,rfl⟩
theorem RDraw_tr (b:Nat) (st:BitVec 64) (used n:Int) (hu:0 ≤ used∧used ≤ 4611686018427387904):Tr Tryz.prog 108 [ptr b,I n] [] (rloP b st used)
  fun v D=>v = tup2 (I (ldraw n st used).1.1) (I (ldraw n st used).1.2)∧D = rloP b (ldraw n st used).2.1 (ldraw n st used).2.2:=by
 by_cases hn:1 ≤ n∧n ≤ 1099511627776
 rotate_left
 ·rw [show ldraw n st used = ((0,3),(st,used)) from if_neg hn]
  refine Tr.enter env _ Tryz.func108 (by kernel_rfl) rfl Tryz.ntmps108 rfl (by repeat (first | exact has00 | refine has01 ?_)) fun w0=>?_
  repeat' first|(refine wo ?_;first|(refine ao ?_;first|refine oa ?_)|refine oa ?_|refine gy ?_|refine gn ?_|(refine gsi (fun hB=>?_) (fun hB=>?_) <;> try (exfalso;omega)))|(refine gc ?_;first|refine ct ?_|(refine ci (fun hB=>?_) (fun hB=>?_) <;> try (exfalso;omega)))|refine sq ?_|refine rg ?_|refine xc ?_|refine nl ?_|refine rt ?_
  all_goals exact r2 ⟨rfl,rfl⟩
 rw [show ldraw n st used = ((((sdraw n.toNat st).1:Int),0),((sdraw n.toNat st).2,used + 1)) from if_pos hn]
 have hnz:=c64_ne (n:=n) (by omega)
 have hml:∀ x:BitVec 64,(x % c64 n).toNat = x.toNat % n.toNat∧(x % c64 n).toNat ≤ 9223372036854775807:=fun x=>by
  have h2:=Nat.mod_lt x.toNat (show 0 < n.toNat by omega)
  have h3:(x % c64 n).toNat = x.toNat % n.toNat:=by rw [BitVec.toNat_umod,c64_toNat (by omega)]
  exact ⟨h3,by omega⟩
 by_cases he:over n = c64 n - c64 1
 ·have hs:sacc n.toNat st = st:=sacc_yes (by rw [over_last hn he];have:=(stir st).isLt;omega)
  have hv:(sdraw n.toNat st).1 = (stir st % c64 n).toNat:=by rw [(hml _).1];unfold sdraw;rw [hs]
  have hv2:(sdraw n.toNat st).2 = st + gold:=by unfold sdraw;rw [hs]
  rw [hv,hv2]
  refine Tr.enter env _ Tryz.func108 (by kernel_rfl) rfl Tryz.ntmps108 rfl (by repeat (first | exact has00 | refine has01 ?_)) fun w0=>?_
  repeat' first|(refine gca ?_;first|(refine ca (word_tr b st (used + 1)) ?_;rintro _ _ ⟨rfl,rfl⟩))|refine uto ?_|refine urm ?_|refine usb ?_|(refine TO.val (v:=.bool true) (fun _ _=>R_true (R_ueql (p:=over n) (q:=c64 n - c64 1) rfl rfl) he) ?_ rfl)|refine uof ?_ (h:=(hml _).2)|(refine wo ?_;first|(refine ao ?_;first|refine aw ?_|refine oa ?_)|refine oa ?_|refine ld ?_|refine sr ?_|refine gy ?_|(refine gsi (fun hB=>?_) (fun hB=>?_) <;> try (exfalso;omega)))|(refine gc ?_;first|refine ct ?_|(refine ci (fun hB=>?_) (fun hB=>?_) <;> try (exfalso;omega)))|refine sq ?_|refine rg ?_|refine xc ?_|refine nl ?_|refine sk ?_|refine rt ?_
  exact r2 ⟨rfl,rfl⟩
 ·have hlim:∀ x:BitVec 64,(x.toNat ≤ lim n.toNat→¬ (c64 18446744073709551615 - over n).toNat ≤ x.toNat)∧(¬ x.toNat ≤ lim n.toNat→(c64 18446744073709551615 - over n).toNat ≤ x.toNat):=fun x=>by
   have hl:(c64 18446744073709551615 - over n).toNat = lim n.toNat + 1:=over_else hn he
   constructor <;> omega
  refine Tr.enter env _ Tryz.func108 (by kernel_rfl) rfl Tryz.ntmps108 rfl (by repeat (first | exact has00 | refine has01 ?_)) fun w0=>?_
  repeat' first|(refine gca ?_;first|(refine ca (word_tr b st (used + 1)) ?_;rintro _ _ ⟨rfl,rfl⟩))|refine uto ?_|refine urm ?_|refine usb ?_|(refine TO.val (v:=.bool false) (fun _ _=>R_false (R_ueql (p:=over n) (q:=c64 n - c64 1) rfl rfl) he) ?_ rfl)|(refine wo ?_;first|(refine ao ?_;first|refine aw ?_|refine oa ?_)|refine oa ?_|refine ld ?_|refine sr ?_|refine gy ?_|(refine gsi (fun hB=>?_) (fun hB=>?_) <;> try (exfalso;omega)))|(refine gc ?_;first|refine ct ?_|refine cf ?_|(refine ci (fun hB=>?_) (fun hB=>?_) <;> try (exfalso;omega)))|refine sq ?_|refine rg ?_|refine xc ?_|refine nl ?_|refine sk ?_|refine bk ?_
  refine TC.loop (ι:=BitVec 64) (fun g=>[(7,U (stir g))]) (fun g=>rloP b (g + gold) (used + 1)) (fun g=>sacc n.toNat g = sacc n.toNat st) far st [0,1,6] rfl ?_
  rintro g hg
  by_cases hst:(stir g).toNat ≤ lim n.toNat
  ·have hst':=(hlim (stir g)).1 hst
   have hv:(sdraw n.toNat st).1 = (stir g % c64 n).toNat:=by rw [(hml _).1];unfold sdraw;rw [← hg,sacc_yes hst]
   have hv2:(sdraw n.toNat st).2 = g + gold:=by unfold sdraw;rw [← hg,sacc_yes hst]
   rw [hv,hv2]
   repeat' first|refine uto ?_|refine urm ?_|refine usb ?_|(refine TO.val (v:=.bool false) (fun _ _=>R_false (R_ugeq (p:=stir g) (q:=c64 18446744073709551615 - over n) rfl rfl) hst') ?_ rfl)|refine uof ?_ (h:=(hml _).2)|(refine wo ?_;first|refine oa ?_)|(refine gc ?_;first|refine cf ?_)|refine sq ?_|refine rg ?_|refine xc ?_|refine nl ?_|refine xe ?_|refine rt ?_
   exact r2 ⟨rfl,rfl⟩
  ·have hst':=(hlim (stir g)).2 hst
   repeat' first|(refine gca ?_;first|(refine ca (word_tr b (g + gold) (used + 1)) ?_;rintro _ _ ⟨rfl,rfl⟩))|refine usb ?_|(refine TO.val (v:=.bool true) (fun _ _=>R_true (R_ugeq (p:=stir g) (q:=c64 18446744073709551615 - over n) rfl rfl) hst') ?_ rfl)|(refine wo ?_;first|refine oa ?_)|(refine gc ?_;first|refine ct ?_)|refine sq ?_|refine rg ?_|refine xc ?_|refine nl ?_|refine sk ?_|refine bk ?_|refine xb ?_
   exact lp (g + gold) (by rw [← sacc_no hst];exact hg) (hlt:=far_step g (far_stop g _ hst))
end Go.Art
namespace Go.Art
open Go Go.Proofs Go.RowKit
def ins (x:Int) (l:List Int) (k:Nat):List Int:=l.take k ++ x :: l.drop k
theorem ins_perm (x:Int) (l:List Int) (k:Nat):(ins x l k).Perm (x :: l):=by
 have h:(l.take k ++ x :: l.drop k).Perm (x :: (l.take k ++ l.drop k)):=List.perm_middle
 rwa [List.take_append_drop] at h
theorem ins_sorted {x:Int} {l:List Int} {k:Nat} (hl:l.Pairwise (· ≤ ·)) (h1:∀ j,j < k→j < l.length→l.getD j 0 ≤ x) (h2:∀ j,k ≤ j→j < l.length→x ≤ l.getD j 0):(ins x l k).Pairwise (· ≤ ·):=by
 unfold ins
 rw [List.pairwise_append,List.pairwise_cons]
 have hh:(l.take k ++ l.drop k).Pairwise (· ≤ ·):=by rw [List.take_append_drop];exact hl
 obtain ⟨p1,p2,p3⟩:=List.pairwise_append.1 hh
 have hx:∀ y ∈ l.drop k,x ≤ y:=fun y hy=>by
  obtain ⟨j,hj,rfl⟩:=List.mem_iff_getElem.1 hy
  have hj':k + j < l.length:=by simp at hj;omega
  have:=h2 (k + j) (by omega) hj'
  simpa [List.getD_eq_getElem?_getD,hj'] using this
 refine ⟨p1,⟨hx,p2⟩,fun a ha b hb=>?_⟩
 have hax:a ≤ x:=by
  obtain ⟨j,hj,rfl⟩:=List.mem_iff_getElem.1 ha
  have hj':j < k∧j < l.length:=by simp at hj;omega
  have:=h1 j hj'.1 hj'.2
  simpa [List.getD_eq_getElem?_getD,hj'.2] using this
 rcases List.mem_cons.1 hb with rfl | hb
 ·exact hax
 ·exact p3 a ha b hb
theorem srt_unique {xs ys:List Int} (h:xs.Perm ys) (hs:xs.Pairwise (· ≤ ·)):srt ys = xs:=
 ((srt_perm ys).trans h.symm).eq_of_pairwise (fun a b _ _ h1 h2=>by omega) (srt_sorted ys) hs
theorem swp_take (l:List Int) {i j:Nat} (hi:i < l.length) (hj:j < l.length) (hij:i ≤ j):(swp l i j).take (i + 1) = l.take i ++ [l.getD j 0]:=by
 have h1:(swp l i j).getD i 0 = l.getD j 0:=by rw [swp_get l i hi hj,if_pos rfl]
 rw [take_succ' (show i < (swp l i j).length by rw [swp_length];exact hi) 0,h1]
 congr 1
 apply List.ext_getElem?
 intro t
 simp only [List.getElem?_take]
 by_cases ht:t < i
 ·rw [if_pos ht,if_pos ht]
  simp [swp,List.getElem?_set,show ¬ i = t by omega,show ¬ j = t by omega]
 ·rw [if_neg ht,if_neg ht]
attribute [local irreducible] Fit pt own ro vw mpc lpt vels rels mow lrc dfr
attribute [local irreducible] lmp lme mit velg relg
theorem RAll_tr (k:Int) (hk:1 ≤ k∧k ≤ 65536):Tr Tryz.prog 177 [I k] [] [] fun v D=>v.oneCell' = true∧D = [own 3 v (Is (upto k.toNat))]:=by
 refine Tr.enter env _ Tryz.func177 (by kernel_rfl) rfl Tryz.ntmps177 rfl (by repeat (first | exact has00 | refine has01 ?_)) fun w0=>?_
 repeat' first|(refine wo ?_;first|refine oa ?_)|refine sq ?_|refine rg ?_|refine xc ?_|refine nl ?_|refine bk ?_
 refine TC.im (own_nil 3 _) ?_
 refine TC.loop (ι:=Nat × Value) (fun g=>[(4,I g.1),(3,g.2)]) (fun g=>[own 3 g.2 (Is (upto g.1))]) (fun g=>g.1 ≤ k.toNat∧g.2.oneCell' = true) (fun g=>k.toNat - g.1) (0,nS) [0] ⟨Nat.zero_le _,rfl⟩ ?_ (hf:=by dsimp only;exact fitA)
 rintro ⟨i,o⟩ ⟨hi,ho⟩
 dsimp only at hi ho ⊢
 by_cases hlt:i < k.toNat
 ·have hu:=upto_length i
  have hs:=upto_succ i
  generalize upto i = L at *
  repeat' first|refine slii [(i:Int)] fun v1=>?_|(refine api (v:=o) (l:=L) (news:=[(i:Int)]) fun v2=>?_;refine TO.one (v:=v2) (xs:=Is (L ++ [(i:Int)])) fun hv2=>?_)|(refine wo ?_;first|(refine ao ?_;first|refine aw ?_|refine oa ?_)|refine oa ?_)|(refine gc ?_;first|(refine ci (fun hB=>?_) (fun hB=>?_) <;> try (exfalso;omega)))|refine sq ?_|refine rg ?_|refine xc ?_|refine nl ?_|refine sk ?_|refine bk ?_|refine xb ?_
  exact lp (i + 1,v2) ⟨hlt,hv2⟩ (hf:=by dsimp only;rw [hs];exact fitA)
 ·obtain rfl:i = k.toNat:=by omega
  repeat' first|(refine wo ?_;first|(refine ao ?_;first|refine oa ?_)|refine oa ?_)|(refine gc ?_;first|(refine ci (fun hB=>?_) (fun hB=>?_) <;> try (exfalso;omega)))|refine sq ?_|refine rg ?_|refine xc ?_|refine nl ?_|refine xe ?_|refine rt ?_
  exact r1 ⟨ho,rfl⟩
structure RoG where
 i:Nat
 l:List Int
 st:BitVec 64
structure RiG where
 i:Nat
 o:Value
 ds:List Int
theorem rising_tr (s:Value) (l:List Int) (hl:l.length ≤ 65536):Tr Tryz.prog 147 [s] [vw s (Is l)] [] fun v D=>D = [own 3 v (Is (srt l))]:=by
 refine Tr.enter env _ Tryz.func147 (by kernel_rfl) rfl Tryz.ntmps147 rfl (by repeat (first | exact has00 | refine has01 ?_)) fun w0=>?_
 repeat' first|(refine wo ?_;first|refine oa ?_)|refine sq ?_|refine rg ?_|refine xc ?_|refine nl ?_|refine bk ?_
 refine TC.im (own_nil 3 _) ?_
 refine TC.loop (ι:=RiG) (fun g=>[(4,I g.i),(3,g.o)]) (fun g=>[own 3 g.o (Is g.ds)]) (fun g=>(g.i ≤ l.length∧g.o.oneCell' = true)∧g.ds.Pairwise (· ≤ ·)∧g.ds.Perm (l.take g.i)) (fun g=>l.length - g.i) ⟨0,nS,[]⟩ [0] ⟨⟨Nat.zero_le _,rfl⟩,by simp,by simp⟩ ?_ (hf:=by dsimp only;exact fitA)
 rintro ⟨i,o,ds⟩ ⟨⟨hi,ho⟩,hds,hpm⟩
 dsimp only at hi ho hds hpm ⊢
 have hdl:ds.length = i:=by rw [hpm.length_eq];simp;omega
 by_cases hlt:i < l.length
 ·have htk:=take_succ' hlt (0:Int)
  generalize hx:l.getD i 0 = x at *
  repeat' first|refine sq_cutX (a:=.block 2 _) (ι:=Nat) (fun t=>t ≤ ds.length∧(ins x ds t).Pairwise (· ≤ ·)) (fun t=>[(0,s),(3,o),(4,I i),(5,I t)]) (fun _=>[own 3 o (Is ds),vw s (Is l)]) ?_ (fun kb=>?_)|(refine wo ?_;first|(refine ao ?_;first|refine oa ?_)|refine oa ?_|refine lnm ?_)|(refine gc ?_;first|(refine ci (fun hB=>?_) (fun hB=>?_) <;> try (exfalso;omega)))|refine sq ?_|refine rg ?_|refine xc ?_|refine nl ?_|refine sk ?_|refine bk ?_
  rotate_left
  ·refine TC.loop (ι:=Nat) (fun t=>[(5,I t)]) (fun _=>[]) (fun t=>t ≤ ds.length∧∀ j,j < t→j < ds.length→ds.getD j 0 < x) (fun t=>ds.length - t) 0 [0,3,4] ⟨Nat.zero_le _,fun j h=>absurd h (Nat.not_lt_zero j)⟩ ?_
   rintro t ⟨ht,hlo⟩
   by_cases hc:t < ds.length∧ds.getD t 0 < x
   ·obtain ⟨hc1,hc2⟩:=hc
    have hlo':∀ j,j < t + 1→j < ds.length→ds.getD j 0 < x:=fun j hj hl=>by
     by_cases e:j = t
     ·rw [e];exact hc2
     ·exact hlo j (by omega) hl
    clear hlo
    generalize hy:ds.getD t 0 = y at *
    repeat' first|refine qlie hx ?_|refine qlie hy ?_|(refine wo ?_;first|(refine ao ?_;first|refine aw ?_)|refine oa ?_)|(refine gc ?_;first|(refine ci (fun hB=>?_) (fun hB=>?_) <;> try (exfalso;omega)))|refine sq ?_|refine rg ?_|refine xc ?_|refine nl ?_|refine sk ?_|refine bk ?_|refine xb ?_|refine rq ?_|refine nq ?_|(refine wq ?_;first|(refine qao ?_;first|refine qa ?_)|refine qa ?_|refine qlnm ?_|refine qixmn ?_|refine qgy ?_|(refine qgsi (fun hB=>?_) (fun hB=>?_) <;> try (exfalso;omega)))
    exact lp (t + 1) ⟨by omega,hlo'⟩
   ·have hge:t = ds.length∨x ≤ ds.getD t 0:=by omega
    have hins:=ins_sorted (x:=x) (k:=t) hds (fun j h1 h2=>Int.le_of_lt (hlo j h1 h2)) (fun j h1 h2=>by
     rcases hge with rfl | hge
     ·omega
     ·refine Int.le_trans hge ?_
      by_cases e:j = t
      ·rw [e];exact Int.le_refl _
      ·have:=List.pairwise_iff_getElem.1 hds t j (by omega) h2 (by omega)
       simpa [List.getD_eq_getElem?_getD,h2,show t < ds.length by omega] using this)
    clear hlo
    repeat' first|refine qlie hx ?_|exact kb t ⟨ht,hins⟩ _ _ (by (repeat (refine Sub.cons rfl (by first | rfl | go_num) ?_));exact Sub.nil) fitA|(refine gc ?_;first|refine cf ?_|(refine ci (fun hB=>?_) (fun hB=>?_) <;> try (exfalso;omega)))|refine sq ?_|refine xc ?_|refine xe ?_|refine rq ?_|refine nq ?_|(refine wq ?_;first|(refine qao ?_;first|refine qa ?_)|refine qa ?_|refine qlnm ?_|refine qixmn ?_|refine qli ?_|refine qgy ?_|refine qgn ?_|(refine qgsi (fun hB=>?_) (fun hB=>?_) <;> try (exfalso;omega)))
  rintro t ⟨ht,hins⟩
  have hinp:(ins x ds t).Perm (l.take (i + 1)):=by
   rw [htk]
   exact (ins_perm x ds t).trans ((List.Perm.cons x hpm).trans (List.perm_append_comm (l₁:=[x])))
  have hie:ins x ds t = ds.take t ++ [x] ++ ds.drop t:=by unfold ins;simp
  have hdr:Is (ds.drop t) = Is ((ds.take ds.length).drop t):=by rw [List.take_length]
  repeat' first|(refine sl0 fun e0=>?_)|(refine sclm (l:=ds) (lo:=(t:Int)) ?_;rw [Int.toNat_natCast])|(refine ap (xs:=[]) (news:=Is (ds.drop t)) (fun rv=>?_) (h1:=Is_one _) (hu:=by rw [hdr];exact has_subi hasA ht (Nat.le_refl _)))|(refine wo ?_;first|refine oa ?_)|refine sq ?_|refine rg ?_|refine xc ?_|refine nl ?_
  refine TC.fact (p:=∃ w0,Sl w0 o (Is ds)) (fun w hw=>⟨w,has_sl hw hasA⟩) fun ⟨wS,hS⟩=>?_
  have hz1:(ds.take t).length ≤ 65536:=by rw [List.length_take];omega
  have hz2:(ds.drop t).length ≤ 65536:=by rw [List.length_drop];omega
  have hz3:(ds.take t ++ [x]).length ≤ 65537:=by rw [List.length_append];simp only [List.length_cons,List.length_nil];omega
  refine rs (id:=9) (fun w=>Sl w s (Is l)) ?_ (fun w hw=>has_sl hw hasA)
  refine tka 0 ?_
  refine tka 1 ?_
  refine tk 2 (v:=slSub o 0 (t:Int).toNat) (hi:=rfl) (fun w _=>R_sliceHiA (E:=env) rfl rfl rfl rfl hS ⟨by omega,by rw [Is_len];omega⟩ w) ?_
  rw [Int.toNat_natCast]
  refine tka 3 ?_
  refine tka 4 ?_
  refine tkx 5 (len:=l.length) (fun w h=>⟨_,h,Is_len l⟩) ?_
  refine tkli 6 (l:=l) (j:=i) (c:=x) (fun w h=>h) hx ?_
  refine tka 9 ?_
  refine t1 7 ?_
  refine slii [x] fun v1=>?_
  refine nl ?_
  refine te (fun w hw=>has_sl hw hasA) ?_
  refine t1 8 ?_
  refine TO.im (Im.trans (show Tk (own 3 o (Is ds)) _ _ by exact tkA) (Im1.im (im_subi 3 o ds (lo:=0) (hi:=t) (Nat.zero_le _) ht) _)) ?_
  rw [List.drop_zero]
  refine api (v:=slSub o 0 t) (l:=ds.take t) (news:=[x]) fun v2=>?_
  refine nl ?_
  refine te (fun w hw=>has_sl hw hasA) ?_
  refine t1 10 ?_
  refine api (v:=v2) (l:=ds.take t ++ [x]) (news:=ds.drop t) (fun v3=>?_)
  refine TO.one (v:=v3) (xs:=Is (ds.take t ++ [x] ++ ds.drop t)) fun hv3=>?_
  refine nl ?_
  refine te (fun w hw=>has_sl hw hasA) ?_
  refine tka 11 ?_
  refine t0 ?_
  rw [← hie]
  repeat' first|(refine wo ?_;first|(refine ao ?_;first|refine aw ?_)|refine oa ?_)|refine rg ?_|refine xc ?_|refine nl ?_|refine xb ?_
  exact lp ⟨i + 1,v3,ins x ds t⟩ ⟨⟨hlt,hv3⟩,hins,hinp⟩ (hf:=by dsimp only;exact fitA)
 ·obtain rfl:i = l.length:=by omega
  rw [List.take_length] at hpm
  repeat' first|(refine wo ?_;first|(refine ao ?_;first|refine oa ?_)|refine oa ?_|refine lnm ?_)|(refine gc ?_;first|(refine ci (fun hB=>?_) (fun hB=>?_) <;> try (exfalso;omega)))|refine sq ?_|refine rg ?_|refine xc ?_|refine nl ?_|refine xe ?_|refine rt ?_
  exact r1 (v:=o) (D:=[own 3 o (Is ds)]) (by rw [srt_unique hpm hds])
end Go.Art
namespace Go.Art
open Go Go.Proofs Go.RowKit
abbrev w0u:Value:=.int .u64 0
def rloC (b:Nat) (sv:Value) (x:Lw) (used:Int):List Ch:=
 match x with
 | .inl st=>rloP b st used
 | .inr (l,br)=>[pt b [sv,.bool false,w0u,I used,.bool br] TRl,own TLI sv (Is l)]
abbrev rlot (b:Nat) (sv:Value) (x:Lw) (used:Int):Ch:=bnd (rloC b sv x used)
theorem rloC_nb (b:Nat) (sv:Value) (x:Lw) (used:Int):∀ c ∈ rloC b sv x used,∀ b,¬ c.bd b:=by
 cases x with
 | inl st=>unfold rloC;(repeat (first | exact nb0 | refine nb1 ?_))
 | inr p=>unfold rloC;(repeat (first | exact nb0 | refine nb1 ?_))
instance (b:Nat) (sv:Value) (x:Lw) (used:Int):NoB (rlot b sv x used):=⟨fun b h=>by obtain ⟨c,hc,h1⟩:=h;exact rloC_nb _ _ _ _ c hc b h1⟩
structure RwG where
 i:Nat
 l:List Int
 outs:List Int
 sv:Value
 x:Lw
attribute [local irreducible] Fit pt own ro vw mpc lpt vels rels mow lrc dfr
attribute [local irreducible] lmp lme mit velg relg
theorem RRow_tr (v:Value) (l:List Int) (hl:l.length ≤ 17592186044416):Tr Tryz.prog 59 [v] [vw v (Is l)] [] fun u D=>∃ b sv,u = ptr b∧D = [rlot b sv (.inr (l,false)) 0]:=by
 refine Tr.enter env _ Tryz.func59 (by kernel_rfl) rfl Tryz.ntmps59 rfl (by repeat (first | exact has00 | refine has01 ?_)) fun w0=>?_
 repeat' first|(refine sl0 fun o=>?_)|(refine api (l:=[]) (news:=l) (fun o=>?_);refine TO.one (v:=o) (xs:=Is ([] ++ l)) fun ho=>?_)|refine bdz ?_|refine bx fun b1=>?_|(refine wo ?_;first|refine oa ?_)|refine sq ?_|refine rg ?_|refine xc ?_|refine nl ?_|refine rt ?_
 exact r1 (D:=[rlot b1 o (.inr (l,false)) 0]) ⟨b1,o,rfl,rfl⟩ (hf:=fit_bnd (C:=[pt b1 [o,.bool false,w0u,I 0,.bool false] TRl,own TLI o (Is l)]) fitA)
theorem RDrawRow_tr (b:Nat) (sv:Value) (l:List Int) (br:Bool) (used n:Int) (hu:0 ≤ used∧used ≤ 4611686018427387904):Tr Tryz.prog 108 [ptr b,I n] [] (rloC b sv (.inr (l,br)) used)
  fun v D=>v = tup2 (I (drw n (.inr (l,br))).1.1) (I (drw n (.inr (l,br))).1.2)∧∃ sv',D = rloC b sv' (drw n (.inr (l,br))).2 (used + dru n (.inr (l,br))):=by
 show Tr _ _ _ _ [pt b [sv,.bool false,w0u,I used,.bool br] TRl,own TLI sv (Is l)] _
 have e0:l.getD (Int.toNat 0) 0 = l.getD 0 0:=rfl
 by_cases hn:1 ≤ n∧n ≤ 1099511627776
 rotate_left
 ·rw [show dru n (.inr (l,br)) = 0 by unfold dru;rw [drw_bad _ hn];rfl,drw_bad _ hn,Int.add_zero]
  refine Tr.mono (R:=fun v D=>v = tup2 (I 0) (I 3)∧D = [pt b [sv,.bool false,w0u,I used,.bool br] TRl,own TLI sv (Is l)]) ?_ (fun v D h=>⟨h.1,sv,h.2⟩)
  refine Tr.enter env _ Tryz.func108 (by kernel_rfl) rfl Tryz.ntmps108 rfl (by repeat (first | exact has00 | refine has01 ?_)) fun w0=>?_
  repeat' first|(refine wo ?_;first|(refine ao ?_;first|refine oa ?_)|refine oa ?_|refine gy ?_|refine gn ?_|(refine gsi (fun hB=>?_) (fun hB=>?_) <;> try (exfalso;omega)))|(refine gc ?_;first|refine ct ?_|(refine ci (fun hB=>?_) (fun hB=>?_) <;> try (exfalso;omega)))|refine sq ?_|refine rg ?_|refine xc ?_|refine nl ?_|refine rt ?_
  all_goals exact r2 ⟨rfl,rfl⟩
 by_cases hr:rowOk n l br
 ·have e1:drw n (.inr (l,br)) = ((l.getD 0 0,0),.inr (l.drop 1,false)):=by rw [drw_inr,if_pos hn,if_pos hr]
  rw [show dru n (.inr (l,br)) = 1 by unfold dru;rw [e1];rfl,e1]
  obtain rfl:br = false:=hr.1
  unfold rowOk at hr
  refine Tr.mono (R:=fun v D=>v = tup2 (I (l.getD 0 0)) (I 0)∧D = [pt b [slSub sv 1 l.length,.bool false,w0u,I (used + 1),.bool false] TRl,own TLI (slSub sv 1 l.length) (Is (l.drop 1))]) ?_ (fun v D h=>⟨h.1,slSub sv 1 l.length,h.2⟩)
  refine Tr.enter env _ Tryz.func108 (by kernel_rfl) rfl Tryz.ntmps108 rfl (by repeat (first | exact has00 | refine has01 ?_)) fun w0=>?_
  refine TC.leni (l:=l) fun hll=>?_
  refine TC.one (v:=sv) (xs:=Is l) fun hsv=>?_
  have hs1:=one_slSub hsv 1 l.length
  repeat' first|(refine wo ?_;first|(refine ao ?_;first|refine aw ?_|refine oa ?_)|refine oa ?_|refine ld ?_|refine lnm ?_|refine ixm ?_|refine li ?_|refine sr ?_|refine sclm ?_|refine gy ?_|(refine gsi (fun hB=>?_) (fun hB=>?_) <;> try (exfalso;omega)))|(refine gc ?_;first|refine cf ?_|(refine ci (fun hB=>?_) (fun hB=>?_) <;> try (exfalso;omega)))|refine sq ?_|refine rg ?_|refine xc ?_|refine nl ?_|refine sk ?_|refine rt ?_
  refine TX.im (sub_own (e:=TLI) (v:=sv) (l:=l) (lo:=1) (hi:=l.length) (by omega) (Nat.le_refl _) fitA) ?_
  rw [List.take_length]
  exact r2 ⟨rfl,rfl⟩
 ·have e1:drw n (.inr (l,br)) = ((0,12),.inr (l,true)):=by rw [drw_inr,if_pos hn,if_neg hr]
  rw [show dru n (.inr (l,br)) = 0 by unfold dru;rw [e1];rfl,e1,Int.add_zero]
  refine Tr.mono (R:=fun v D=>v = tup2 (I 0) (I 12)∧D = [pt b [sv,.bool false,w0u,I used,.bool true] TRl,own TLI sv (Is l)]) ?_ (fun v D h=>⟨h.1,sv,h.2⟩)
  cases br with
  | true=>
   refine Tr.enter env _ Tryz.func108 (by kernel_rfl) rfl Tryz.ntmps108 rfl (by repeat (first | exact has00 | refine has01 ?_)) fun w0=>?_
   repeat' first|(refine wo ?_;first|(refine ao ?_;first|refine oa ?_)|refine oa ?_|refine ld ?_|refine sr ?_|refine gy ?_|refine gn ?_|(refine gsi (fun hB=>?_) (fun hB=>?_) <;> try (exfalso;omega)))|(refine gc ?_;first|refine ct ?_|refine cf ?_|(refine ci (fun hB=>?_) (fun hB=>?_) <;> try (exfalso;omega)))|refine sq ?_|refine rg ?_|refine xc ?_|refine nl ?_|refine sk ?_|refine rt ?_
   exact r2 ⟨rfl,rfl⟩
  | false=>
   have hr':¬ (0 < l.length∧0 ≤ l.getD 0 0∧l.getD 0 0 < n):=fun k=>hr ⟨rfl,k⟩
   refine Tr.enter env _ Tryz.func108 (by kernel_rfl) rfl Tryz.ntmps108 rfl (by repeat (first | exact has00 | refine has01 ?_)) fun w0=>?_
   refine TC.leni (l:=l) fun hll=>?_
   repeat' first|(refine wo ?_;first|(refine ao ?_;first|refine oa ?_)|refine oa ?_|refine ld ?_|refine lnm ?_|refine ixm ?_|refine li ?_|refine sr ?_|refine gy ?_|refine gn ?_|(refine gsi (fun hB=>?_) (fun hB=>?_) <;> try (exfalso;omega)))|(refine gc ?_;first|refine ct ?_|refine cf ?_|(refine ci (fun hB=>?_) (fun hB=>?_) <;> try (exfalso;omega)))|refine sq ?_|refine rg ?_|refine xc ?_|refine nl ?_|refine sk ?_|refine rt ?_
   all_goals first | (exfalso;omega) | exact r2 ⟨rfl,rfl⟩
theorem RDrawL_tr (b:Nat) (sv:Value) (x:Lw) (used n:Int) (hu:0 ≤ used∧used ≤ 4611686018427387904):Tr Tryz.prog 108 [ptr b,I n] [] [rlot b sv x used]
  fun v D=>v = tup2 (I (drw n x).1.1) (I (drw n x).1.2)∧∃ sv',D = [rlot b sv' (drw n x).2 (used + dru n x)]:=by
 cases x with
 | inl st=>
  refine TrB1 (C:=rloC b sv (.inl st) used) (RDraw_tr b st used n hu) fun v D h=>?_
  have e:ldraw n st used = ((drw n (.inl st)).1,((if 1 ≤ n∧n ≤ 1099511627776 then (sdraw n.toNat st).2 else st),used + dru n (.inl st)))∧(drw n (.inl st)).2 = .inl (if 1 ≤ n∧n ≤ 1099511627776 then (sdraw n.toNat st).2 else st):=by
   unfold dru ldraw
   rw [drw_inl]
   split
   ·exact ⟨rfl,rfl⟩
   ·rw [if_neg (show ¬ (3:Int) = 0 by decide),Int.add_zero];exact ⟨rfl,rfl⟩
  rw [e.1] at h
  rw [e.2]
  exact ⟨h.1,sv,by rw [h.2];rfl⟩
 | inr p=>
  obtain ⟨l,br⟩:=p
  exact TrB1 (RDrawRow_tr b sv l br used n hu) fun v D ⟨h1,sv',h2⟩=>⟨h1,sv',by rw [h2]⟩
theorem ROrderL_tr (b:Nat) (sv:Value) (x:Lw) (used k d:Int) (hu:0 ≤ used∧used ≤ 1152921504606846976):Tr Tryz.prog 146 [ptr b,I k,I d] [] [rlot b sv x used]
  fun v D=>∃ o sv',v = tup2 o (I (ordO k d x).1.2)∧D = [own TLI o (Is (ordO k d x).1.1),rlot b sv' (ordO k d x).2.1 (used + (ordO k d x).2.2)]:=by
 by_cases hsz:Sized k d
 rotate_left
 ·rw [show ordO k d x = (([],3),(x,0)) from if_neg hsz,Int.add_zero]
  unfold Sized at hsz
  refine Tr.enter env _ Tryz.func146 (by kernel_rfl) rfl Tryz.ntmps146 rfl (by repeat (first | exact has00 | refine has01 ?_)) fun w0=>?_
  refine TC.im (own_nil TLI _) ?_
  repeat' first|(refine wo ?_;first|(refine ao ?_;first|refine oa ?_)|refine oa ?_|refine gy ?_|refine gn ?_|(refine gsi (fun hB=>?_) (fun hB=>?_) <;> try (exfalso;omega)))|(refine gc ?_;first|refine ct ?_|(refine ci (fun hB=>?_) (fun hB=>?_) <;> try (exfalso;omega)))|refine sq ?_|refine rg ?_|refine xc ?_|refine nl ?_|refine rt ?_
  all_goals exact r2 ⟨nS,sv,rfl,rfl⟩
 have hO:ordO k d x = _:=if_pos hsz
 rw [hO]
 clear hO
 obtain ⟨k1,k2,d1,d2⟩:=id hsz
 have hul:=upto_length k.toNat
 refine Tr.enter env _ Tryz.func146 (by kernel_rfl) rfl Tryz.ntmps146 rfl (by repeat (first | exact has00 | refine has01 ?_)) fun w0=>?_
 repeat' first|(refine gca ?_;first|(refine ca (RAll_tr k ⟨k1,k2⟩) ?_;rintro pv _ ⟨hpv,rfl⟩))|(refine wo ?_;first|(refine ao ?_;first|refine oa ?_)|refine oa ?_|refine gy ?_|(refine gsi (fun hB=>?_) (fun hB=>?_) <;> try (exfalso;omega)))|(refine gc ?_;first|(refine ci (fun hB=>?_) (fun hB=>?_) <;> try (exfalso;omega)))|refine sq ?_|refine rg ?_|refine xc ?_|refine nl ?_|refine sk ?_|refine bk ?_
 generalize hF:ordW k.toNat d.toNat 0 (upto k.toNat) x = Fn at *
 refine TC.loop (ι:=RwG) (fun g=>[(9,I g.i)]) (fun g=>[own TLI pv (Is g.l),rlot b g.sv g.x (used + g.i)]) (fun g=>g.i ≤ d.toNat∧g.l.length = k.toNat∧g.l.take g.i ++ (ordW k.toNat (d.toNat - g.i) g.i g.l g.x).1.1 = Fn.1.1∧(ordW k.toNat (d.toNat - g.i) g.i g.l g.x).1.2 = Fn.1.2∧(ordW k.toNat (d.toNat - g.i) g.i g.l g.x).2 = Fn.2)
  (fun g=>d.toNat - g.i) ⟨0,upto k.toNat,[],sv,x⟩ [0,1,2,8] ⟨by simp,hul,by simp [hF],by simp [hF],by simp [hF]⟩ ?_ (hf:=by dsimp only;rw [show used + ((0:Nat):Int) = used by omega];exact fitA)
 clear hF hul
 rintro ⟨i,l,_,sv2,x2⟩ ⟨h1,h2,h3,h4,h5⟩
 dsimp only at h1 h2 h3 h4 h5 ⊢
 by_cases hi:i < d.toNat
 ·have hki:1 ≤ k - (i:Int)∧k - (i:Int) ≤ 1099511627776:=by omega
  have hkn:(k.toNat:Int) - (i:Int) = k - i:=by omega
  rw [show d.toNat - i = (d.toNat - (i + 1)) + 1 by omega] at h3 h4 h5
  unfold ordW at h3 h4 h5
  rw [hkn] at h3 h4 h5
  have hD:=RDrawL_tr b sv2 x2 (used + i) (k - i) (by omega)
  by_cases he:(drw (k - (i:Int)) x2).1.2 = 0
  ·rw [if_pos he] at h3 h4 h5
   dsimp only at h3 h4 h5
   obtain ⟨q3,q4⟩:=drw_rng he
   rw [show dru (k - i) x2 = 1 from if_pos he,he] at hD
   obtain ⟨s,hs⟩ : ∃ s:Nat,(drw (k - (i:Int)) x2).1.1 = s:=⟨(drw (k - (i:Int)) x2).1.1.toNat,by omega⟩
   obtain ⟨x3,hx3⟩ : ∃ x3,x3 = (drw (k - (i:Int)) x2).2:=⟨_,rfl⟩
   rw [hs] at h3 h4 h5 q3 q4 hD
   rw [← hx3] at h3 h4 h5 hD
   rw [Int.toNat_natCast] at h3 h4 h5
   clear hs hx3 he
   have htk:=swp_take l (i:=i) (j:=i + s) (by omega) (by omega) (by omega)
   have hsw:swp l i (i + s) = (l.set (i + s) (l.getD i 0)).set i (l.getD (i + s) 0):=rfl
   have hsl:=swp_length l i (i + s)
   generalize hx:l.getD (i + s) 0 = y1 at *
   generalize hy:l.getD i 0 = y2 at *
   have hq:(l.set (i + s) y2).length = l.length:=List.length_set ..
   have hax:(i:Int) + s = ((i + s:Nat):Int):=by omega
   repeat' first|(refine gca ?_;first|(refine ca hD ?_;rintro _ _ ⟨rfl,sv3,rfl⟩))|(refine aw (m:=((i + s:Nat):Int)) ?_ (h:=by rw [← hax];rfl))|refine lie hx ?_|refine lie hy ?_|refine soi (l:=l) (j:=i + s) ?_|refine soi (l:=l.set (i + s) y2) (j:=i) ?_ (hj:=by rw [List.length_set];omega)|(refine wo ?_;first|(refine ao ?_;first|refine aw ?_|refine oa ?_)|refine oa ?_|refine ixmn ?_)|(refine gc ?_;first|refine cf ?_|(refine ci (fun hB=>?_) (fun hB=>?_) <;> try (exfalso;omega)))|refine sq ?_|refine rg ?_|refine xc ?_|refine nl ?_|refine sk ?_|refine bk ?_|refine xb ?_
   refine lp ⟨i + 1,swp l i (i + s),[],sv3,x3⟩ ⟨by dsimp only;omega,by dsimp only;omega,by dsimp only;rw [htk,List.append_assoc];exact h3,h4,h5⟩ (hf:=by dsimp only;rw [hsw,show used + ((i + 1:Nat):Int) = used + i + 1 by omega];exact fitA)
  ·rw [if_neg he] at h3 h4 h5
   dsimp only at h3 h4 h5
   rw [List.append_nil] at h3
   rw [show dru (k - i) x2 = 0 from if_neg he,Int.add_zero] at hD
   have hf0:¬ Fn.1.2 = 0:=by rw [← h4];exact he
   rw [if_neg hf0]
   have hlen:Fn.1.1.length = i:=by rw [← h3,List.length_take];omega
   rw [← h4,← h5,hlen]
   obtain ⟨dr,hdr⟩ : ∃ dr,dr = drw (k - (i:Int)) x2:=⟨_,rfl⟩
   rw [← hdr] at hD he ⊢
   repeat' first|(refine gca ?_;first|(refine ca hD ?_;rintro _ _ ⟨rfl,sv3,rfl⟩))|(refine wo ?_;first|(refine ao ?_;first|refine aw ?_|refine oa ?_)|refine oa ?_)|(refine gc ?_;first|(refine ci (fun hB=>?_) (fun hB=>?_) <;> try (exfalso;omega))|(refine cn (fun hB=>?_) (fun hB=>?_) <;> try (exfalso;omega)))|refine sq ?_|refine rg ?_|refine xc ?_|refine nl ?_|refine sk ?_|refine bk ?_|refine rt ?_
   refine TX.im (own_nil TLI _) ?_
   exact r2 ⟨nS,sv3,rfl,rfl⟩
 ·obtain rfl:i = d.toNat:=by omega
  rw [Nat.sub_self] at h3 h4 h5
  unfold ordW at h3 h4 h5
  dsimp only at h3 h4 h5
  rw [List.append_nil] at h3
  rw [if_pos h4.symm]
  have hlen:Fn.1.1.length = d.toNat:=by rw [← h3,List.length_take];omega
  rw [← h4,← h5,hlen]
  repeat' first|(refine wo ?_;first|(refine ao ?_;first|refine oa ?_)|refine oa ?_|refine schm ?_)|(refine gc ?_;first|(refine ci (fun hB=>?_) (fun hB=>?_) <;> try (exfalso;omega)))|refine sq ?_|refine rg ?_|refine xc ?_|refine nl ?_|refine xe ?_|refine rt ?_
  refine TX.im (sub_own (e:=TLI) (v:=pv) (l:=l) (lo:=0) (hi:=d.toNat) (Nat.zero_le _) (by omega) fitA) ?_
  rw [List.drop_zero,h3]
  exact r2 ⟨slSub pv 0 d.toNat,sv2,rfl,rfl⟩
theorem RPickL_tr (b:Nat) (sv:Value) (x:Lw) (used k d:Int) (hu:0 ≤ used∧used ≤ 1152921504606846976):Tr Tryz.prog 109 [ptr b,I k,I d] [] [rlot b sv x used]
  fun v D=>∃ o sv',v = tup2 o (I (pickO k d x).2)∧D = [own TLI o (Is (pickO k d x).1),rlot b sv' (ordO k d x).2.1 (used + (ordO k d x).2.2)]:=by
 have hlen:=ordO_len k d x
 refine Tr.enter env _ Tryz.func109 (by kernel_rfl) rfl Tryz.ntmps109 rfl (by repeat (first | exact has00 | refine has01 ?_)) fun w0=>?_
 repeat' first|(refine gca ?_;first|(refine ca (ROrderL_tr b sv x used k d hu) ?_;rintro _ _ ⟨o,sv2,rfl,rfl⟩)|(refine ca (rising_tr o (ordO k d x).1.1 hlen) ?_;rintro v2 _ rfl))|(refine wo ?_;first|refine oa ?_)|refine sq ?_|refine rg ?_|refine xc ?_|refine nl ?_|refine rt ?_
 exact r2 ⟨v2,sv2,rfl,rfl⟩
end Go.Art
namespace Go.Art
open Go Go.Proofs Go.RowKit
theorem pickO_err {k d:Int} {x:Lw} (h:(pickO k d x).2 ≠ 0):(pickO k d x).1 = []:=by
 unfold pickO ordO at h ⊢
 split
 ·rename_i hs
  rw [if_pos hs] at h
  dsimp only at h ⊢
  rw [if_neg h]
  exact List.perm_nil.1 (srt_perm [])
 ·exact List.perm_nil.1 (srt_perm [])
def colBad (tot:Int) (cut oth:List Int) (i:Nat):Prop:=cut.getD i 0 < 0∨tot < cut.getD i 0∨oth.getD i 0 < 0∨(cut.length:Int) ≤ oth.getD i 0
def alFst (tot:Int) (cut oth:List Int):Prop:=(1 ≤ tot∧tot ≤ 1099511627776)∧(1 ≤ cut.length∧cut.length ≤ 65536)∧oth.length = cut.length
theorem alE_bad {tot:Int} {cut oth:List Int} (h:alFst tot cut oth) {i:Nat} (hi:i < cut.length) (hb:colBad tot cut oth i):alE tot cut oth = 6:=by
 unfold alE
 unfold alFst at h
 rw [if_neg (by omega),if_pos]
 have a1:cut.getD i 0 ∈ cut:=mem_getD.2 ⟨i,hi,rfl⟩
 have a2:oth.getD i 0 ∈ oth:=mem_getD.2 ⟨i,by omega,rfl⟩
 unfold colBad at hb
 rw [Bool.or_eq_true]
 by_cases h1:cut.getD i 0 < 0∨tot < cut.getD i 0
 ·exact .inl (List.any_eq_true.2 ⟨_,a1,decide_eq_true (by omega)⟩)
 ·exact .inr (List.any_eq_true.2 ⟨_,a2,decide_eq_true (by omega)⟩)
theorem alE_fine {tot:Int} {cut oth:List Int} (h:alFst tot cut oth) (hb:∀ i,i < cut.length→¬ colBad tot cut oth i):alE tot cut oth = 0:=by
 unfold alE
 unfold alFst at h
 rw [if_neg (by omega),if_neg]
 rw [Bool.or_eq_true]
 rintro (h1 | h1)
 ·obtain ⟨y,hy,h2⟩:=List.any_eq_true.1 h1
  obtain ⟨i,hi,rfl⟩:=mem_getD.1 hy
  have h3:=of_decide_eq_true h2
  exact hb i hi (by unfold colBad;omega)
 ·obtain ⟨y,hy,h2⟩:=List.any_eq_true.1 h1
  obtain ⟨i,hi,rfl⟩:=mem_getD.1 hy
  have h3:=of_decide_eq_true h2
  exact hb i (by omega) (by unfold colBad;omega)
theorem alE_not {tot:Int} {cut oth:List Int} (h:¬ alFst tot cut oth):alE tot cut oth = 6:=by
 unfold alE
 unfold alFst at h
 rw [if_pos (by omega)]
attribute [local irreducible] Fit pt own ro vw mpc lpt vels rels mow lrc dfr
attribute [local irreducible] lmp lme mit velg relg
theorem RAlE_tr (tot:Int) (cv ov:Value) (cut oth:List Int) (hc:cv.oneCell' = true) (ho:ov.oneCell' = true):Tr Tryz.prog 142 [.agg #[I tot,cv,ov]] [vw cv (Is cut),vw ov (Is oth)] [] fun v D=>v = I (alE tot cut oth)∧D = []:=by
 by_cases hf:alFst tot cut oth
 rotate_left
 ·rw [alE_not hf]
  unfold alFst at hf
  refine Tr.enter env _ Tryz.func142 (by kernel_rfl) rfl Tryz.ntmps142 rfl (by repeat (first | exact has00 | refine has01 ?_)) fun w0=>?_
  refine TC.leni (v:=cv) (l:=cut) fun hcl=>?_
  refine TC.leni (v:=ov) (l:=oth) fun hol=>?_
  repeat' first|refine bx fun b=>?_|(refine wo ?_;first|(refine ao ?_;first|refine oa ?_)|refine oa ?_|refine ld ?_|refine lnm ?_|refine gy ?_|refine gn ?_|(refine gsi (fun hB=>?_) (fun hB=>?_) <;> try (exfalso;omega)))|(refine gc ?_;first|refine ct ?_|(refine cn (fun hB=>?_) (fun hB=>?_) <;> try (exfalso;omega)))|refine sq ?_|refine rg ?_|refine xc ?_|refine nl ?_|refine rt ?_
  all_goals exact r1 ⟨rfl,rfl⟩
 have hbad:=fun i hi hb=>alE_bad (i:=i) hf hi hb
 have hfine:=alE_fine hf
 generalize alE tot cut oth = e at *
 unfold alFst at hf
 refine Tr.enter env _ Tryz.func142 (by kernel_rfl) rfl Tryz.ntmps142 rfl (by repeat (first | exact has00 | refine has01 ?_)) fun w0=>?_
 repeat' first|refine bx fun b=>?_|(refine wo ?_;first|(refine ao ?_;first|refine oa ?_)|refine oa ?_|refine ld ?_|refine lnm ?_|refine gy ?_|(refine gsi (fun hB=>?_) (fun hB=>?_) <;> try (exfalso;omega)))|(refine gc ?_;first|(refine cn (fun hB=>?_) (fun hB=>?_) <;> try (exfalso;omega)))|refine sq ?_|refine rg ?_|refine xc ?_|refine nl ?_|refine sk ?_|refine bk ?_
 refine TC.loop (ι:=Nat) (fun i=>[(4,I i)]) (fun _=>[]) (fun i=>i ≤ cut.length∧∀ j,j < i→¬ colBad tot cut oth j) (fun i=>cut.length - i) 0 [1,3] ⟨Nat.zero_le _,fun j h=>absurd h (Nat.not_lt_zero j)⟩ ?_
 rintro i ⟨hi,hok⟩
 by_cases hlt:i < cut.length
 ·have hb1:=hbad i hlt
  have hnx:¬ colBad tot cut oth i→∀ j,j < i + 1→¬ colBad tot cut oth j:=fun h j hj=>by
   by_cases e:j = i
   ·rw [e];exact h
   ·exact hok j (by omega)
  unfold colBad at hb1 hnx
  clear hbad hfine hok
  generalize hx:cut.getD i 0 = x at *
  generalize hy:oth.getD i 0 = y at *
  by_cases hb:x < 0∨tot < x∨y < 0∨(cut.length:Int) ≤ y
  ·have e6:=hb1 hb
   subst e6
   clear hb1 hnx
   repeat' first|refine qlie hx ?_|refine qlie hy ?_|(refine wo ?_;first|(refine ao ?_;first|refine oa ?_)|refine oa ?_)|(refine gc ?_;first|refine ct ?_|(refine ci (fun hB=>?_) (fun hB=>?_) <;> try (exfalso;omega)))|refine sq ?_|refine rg ?_|refine xc ?_|refine nl ?_|refine sk ?_|refine bk ?_|refine rt ?_|refine rq ?_|refine nq ?_|(refine wq ?_;first|(refine qao ?_;first|refine qa ?_)|refine qa ?_|refine qld ?_|refine qixmn ?_|refine qgy ?_|refine qgn ?_|(refine qgsi (fun hB=>?_) (fun hB=>?_) <;> try (exfalso;omega)))
   all_goals exact r1 ⟨rfl,rfl⟩
  ·have hn:=hnx hb
   clear hb1 hnx
   repeat' first|refine qlie hx ?_|refine qlie hy ?_|(refine wo ?_;first|(refine ao ?_;first|refine aw ?_|refine oa ?_)|refine oa ?_)|(refine gc ?_;first|(refine ci (fun hB=>?_) (fun hB=>?_) <;> try (exfalso;omega)))|refine sq ?_|refine rg ?_|refine xc ?_|refine nl ?_|refine sk ?_|refine bk ?_|refine xb ?_|refine rq ?_|refine nq ?_|(refine wq ?_;first|(refine qao ?_;first|refine qa ?_)|refine qa ?_|refine qld ?_|refine qixmn ?_|refine qgy ?_|(refine qgsi (fun hB=>?_) (fun hB=>?_) <;> try (exfalso;omega)))
   exact lp (i + 1) ⟨hlt,by unfold colBad;exact hn⟩
 ·obtain rfl:i = cut.length:=by omega
  have e0:=hfine hok
  subst e0
  repeat' first|(refine wo ?_;first|(refine ao ?_;first|refine oa ?_)|refine oa ?_)|(refine gc ?_;first|(refine ci (fun hB=>?_) (fun hB=>?_) <;> try (exfalso;omega)))|refine sq ?_|refine rg ?_|refine xc ?_|refine nl ?_|refine xe ?_|refine rt ?_
  exact r1 ⟨rfl,rfl⟩
theorem RAlPk_tr (tot c l:Int) (cv ov:Value) (cut oth:List Int) (hc:cv.oneCell' = true) (ho:ov.oneCell' = true) (hE:alE tot cut oth = 0) (h1:0 ≤ c∧c < cut.length) (h2:0 ≤ l∧l < tot) :
  Tr Tryz.prog 144 [.agg #[I tot,cv,ov],I c,I l] [vw cv (Is cut),vw ov (Is oth)] [] fun v D=>v = tup2 (I (alPick tot cut oth c l)) (I 0)∧D = []:=by
 have hol:oth.length = cut.length:=by
  refine Classical.byContradiction fun hn=>?_
  have:=alE_not (tot:=tot) (cut:=cut) (oth:=oth) (fun h=>hn h.2.2)
  omega
 have hA:=RAlE_tr tot cv ov cut oth hc ho
 rw [hE] at hA
 refine Tr.enter env _ Tryz.func144 (by kernel_rfl) rfl Tryz.ntmps144 rfl (by repeat (first | exact has00 | refine has01 ?_)) fun w0=>?_
 repeat' first|(refine gca ?_;first|(refine ca hA ?_;rintro _ _ ⟨rfl,rfl⟩))|refine bx fun b=>?_|refine lda ?_|(refine wo ?_;first|(refine ao ?_;first|refine oa ?_)|refine oa ?_|refine ld ?_|refine lnm ?_|refine ixm ?_|refine li ?_|refine gy ?_|(refine gsi (fun hB=>?_) (fun hB=>?_) <;> try (exfalso;omega)))|(refine gc ?_;first|refine cf ?_|(refine ci (fun hB=>?_) (fun hB=>?_) <;> try (exfalso;omega)))|refine sq ?_|refine rg ?_|refine xc ?_|refine nl ?_|refine sk ?_|refine bk ?_|refine rt ?_|refine xb ?_
 ·refine r2 ⟨?_,rfl⟩
  unfold alPick;rw [if_pos hB]
 ·refine r2 ⟨?_,rfl⟩
  unfold alPick;rw [if_neg hB]
theorem RRwE_tr (tot k:Int) (cv ov:Value) (cut oth:List Int) (hc:cv.oneCell' = true) (ho:ov.oneCell' = true):Tr Tryz.prog 102 [.agg #[I tot,cv,ov],I k] [vw cv (Is cut),vw ov (Is oth)] [] fun v D=>v = I (rwE tot cut oth k)∧D = []:=by
 have hA:=RAlE_tr tot cv ov cut oth hc ho
 unfold rwE
 rcases alE_or tot cut oth with hE | hE
 ·rw [hE] at hA
  rw [if_pos hE]
  refine Tr.enter env _ Tryz.func102 (by kernel_rfl) rfl Tryz.ntmps102 rfl (by repeat (first | exact has00 | refine has01 ?_)) fun w0=>?_
  repeat' first|(refine gca ?_;first|(refine ca hA ?_;rintro _ _ ⟨rfl,rfl⟩))|refine bx fun b=>?_|refine lda ?_|(refine wo ?_;first|(refine ao ?_;first|refine oa ?_)|refine oa ?_|refine ld ?_|refine lnm ?_|refine gy ?_|refine gn ?_|(refine gsi (fun hB=>?_) (fun hB=>?_) <;> try (exfalso;omega)))|(refine gc ?_;first|refine ct ?_|refine cf ?_|(refine ci (fun hB=>?_) (fun hB=>?_) <;> try (exfalso;omega)))|refine sq ?_|refine rg ?_|refine xc ?_|refine nl ?_|refine sk ?_|refine rt ?_
  ·exact r1 ⟨by rw [if_pos (by omega)],rfl⟩
  ·exact r1 ⟨by rw [if_pos (by omega)],rfl⟩
  ·exact r1 ⟨by rw [if_pos (by omega)],rfl⟩
  ·exact r1 ⟨by rw [if_neg (by omega)],rfl⟩
 ·rw [hE] at hA
  rw [if_neg (by omega)]
  refine Tr.enter env _ Tryz.func102 (by kernel_rfl) rfl Tryz.ntmps102 rfl (by repeat (first | exact has00 | refine has01 ?_)) fun w0=>?_
  repeat' first|(refine gca ?_;first|(refine ca hA ?_;rintro _ _ ⟨rfl,rfl⟩))|refine bx fun b=>?_|refine lda ?_|(refine wo ?_;first|(refine ao ?_;first|refine oa ?_)|refine oa ?_)|(refine gc ?_;first|refine ct ?_)|refine sq ?_|refine rg ?_|refine xc ?_|refine nl ?_|refine rt ?_
  exact r1 ⟨rfl,rfl⟩
theorem degreeW_tr (tot c l:Int) (cv ov:Value) (cut oth:List Int) (hc:cv.oneCell' = true) (ho:ov.oneCell' = true) (hE:alE tot cut oth = 0) (h1:0 ≤ c∧c < cut.length) (h2:0 ≤ l∧l < tot) :
  Tr Tryz.prog 105 [.agg #[I tot,cv,ov],I c,I l] [vw cv (Is cut),vw ov (Is oth)] [] fun v D=>v = I (alPick tot cut oth c l + 1)∧D = []:=by
 have hP:=RAlPk_tr tot c l cv ov cut oth hc ho hE h1 h2
 have hb:=alE_bnd hE
 have h3:=alPick_in hE (l:=l) h1
 generalize alPick tot cut oth c l = a at *
 refine Tr.enter env _ Tryz.func105 (by kernel_rfl) rfl Tryz.ntmps105 rfl (by repeat (first | exact has00 | refine has01 ?_)) fun w0=>?_
 repeat' first|(refine gca ?_;first|(refine ca hP ?_;rintro _ _ ⟨rfl,rfl⟩))|refine bx fun b=>?_|refine lda ?_|(refine wo ?_;first|(refine ao ?_;first|refine aw ?_)|refine oa ?_)|refine sq ?_|refine rg ?_|refine xc ?_|refine nl ?_|refine rt ?_
 exact r1 ⟨rfl,rfl⟩
theorem RSetW_tr (tot k:Int) (cv ov:Value) (cut oth:List Int) (b:Nat) (sv:Value) (x:Lw) (hc:cv.oneCell' = true) (ho:ov.oneCell' = true) :
  Tr Tryz.prog 58 [.agg #[I tot,cv,ov],I k,ptr b] [vw cv (Is cut),vw ov (Is oth)] [rlot b sv x 0] fun v D=>∃ o sv',v = tup2 o (I (setW tot cut oth k x).1.2)∧D = [own TLI o (Is (setW tot cut oth k x).1.1),rlot b sv' (setW tot cut oth k x).2.1 (setW tot cut oth k x).2.2]:=by
 have hck:=RRwE_tr tot k cv ov cut oth hc ho
 unfold setW
 by_cases hk:rwE tot cut oth k = 0
 rotate_left
 ·rw [if_neg hk]
  generalize rwE tot cut oth k = e at *
  refine Tr.enter env _ Tryz.func58 (by kernel_rfl) rfl Tryz.ntmps58 rfl (by repeat (first | exact has00 | refine has01 ?_)) fun w0=>?_
  repeat' first|(refine gca ?_;first|(refine ca hck ?_;rintro _ _ ⟨rfl,rfl⟩))|refine bx fun b=>?_|refine lda ?_|(refine wo ?_;first|(refine ao ?_;first|refine oa ?_)|refine oa ?_)|(refine gc ?_;first|(refine cn (fun hB=>?_) (fun hB=>?_) <;> try (exfalso;omega)))|refine sq ?_|refine rg ?_|refine xc ?_|refine nl ?_|refine rt ?_
  refine TX.im (own_nil TLI _) ?_
  exact r2 ⟨nS,sv,rfl,rfl⟩
 rw [hk] at hck
 rw [if_pos hk]
 obtain ⟨hE,k1,k2,k3⟩:=rwE_ok hk
 clear hk
 have hb:=alE_bnd hE
 have h1:=RDrawL_tr b sv x 0 cut.length (by omega)
 have hpi:=@plcW_in tot cut oth x hE
 unfold plcW at hpi ⊢
 by_cases he1:(drw cut.length x).1.2 = 0
 ·simp only [if_pos he1] at hpi ⊢
  rw [show dru cut.length x = 1 from if_pos he1,he1,Int.zero_add] at h1
  have l1:=drw_rng he1
  clear he1
  generalize (drw cut.length x).1.1 = c at *
  generalize (drw cut.length x).2 = x1 at *
  have h2:=fun sv1=>RDrawL_tr b sv1 x1 1 tot (by omega)
  by_cases he2:(drw tot x1).1.2 = 0
  ·simp only [if_pos he2] at hpi ⊢
   rw [show dru tot x1 = 1 from if_pos he2,he2] at h2
   have l2:=drw_rng he2
   clear he2
   generalize (drw tot x1).1.1 = l at *
   generalize (drw tot x1).2 = x2 at *
   have hd:=degreeW_tr tot c l cv ov cut oth hc ho hE (by omega) (by omega)
   generalize alPick tot cut oth c l = at1 at *
   have h3:=fun sv1=>RPickL_tr b sv1 x2 (1 + 1) k (at1 + 1) (by omega)
   have hpe:=@pickO_err k (at1 + 1) x2
   generalize pickO k (at1 + 1) x2 = pk at *
   generalize ordO k (at1 + 1) x2 = oo at *
   rw [if_pos trivial]
   by_cases hp:pk.2 = 0
   ·rw [hp] at h3 ⊢
    refine Tr.enter env _ Tryz.func58 (by kernel_rfl) rfl Tryz.ntmps58 rfl (by repeat (first | exact has00 | refine has01 ?_)) fun w0=>?_
    repeat' first|(refine gca ?_;first|(refine ca hck ?_;rintro _ _ ⟨rfl,rfl⟩)|(refine ca h1 ?_;rintro _ _ ⟨rfl,sv1,rfl⟩)|(refine ca (h2 sv1) ?_;rintro _ _ ⟨rfl,sv2,rfl⟩)|(refine ca hd ?_;rintro _ _ ⟨rfl,rfl⟩)|(refine ca (h3 sv2) ?_;rintro _ _ ⟨o,sv3,rfl,rfl⟩))|refine bx fun b=>?_|refine lda ?_|(refine wo ?_;first|(refine ao ?_;first|refine oa ?_)|refine oa ?_|refine ld ?_|refine lnm ?_)|(refine gc ?_;first|refine cf ?_)|refine sq ?_|refine rg ?_|refine xc ?_|refine nl ?_|refine sk ?_|refine rt ?_
    exact r2 ⟨o,sv3,rfl,by rw [show (2:Int) = 1 + 1 from rfl]⟩
   ·have hn:=hpe hp
    rw [hn]
    rw [hn] at h3
    generalize pk.2 = pe at *
    refine Tr.enter env _ Tryz.func58 (by kernel_rfl) rfl Tryz.ntmps58 rfl (by repeat (first | exact has00 | refine has01 ?_)) fun w0=>?_
    repeat' first|(refine gca ?_;first|(refine ca hck ?_;rintro _ _ ⟨rfl,rfl⟩)|(refine ca h1 ?_;rintro _ _ ⟨rfl,sv1,rfl⟩)|(refine ca (h2 sv1) ?_;rintro _ _ ⟨rfl,sv2,rfl⟩)|(refine ca hd ?_;rintro _ _ ⟨rfl,rfl⟩)|(refine ca (h3 sv2) ?_;rintro _ _ ⟨o,sv3,rfl,rfl⟩))|refine bx fun q=>?_|refine lda ?_|(refine wo ?_;first|(refine ao ?_;first|refine oa ?_)|refine oa ?_|refine ld ?_|refine lnm ?_)|(refine gc ?_;first|refine cf ?_|(refine cn (fun hB=>?_) (fun hB=>?_) <;> try (exfalso;omega)))|refine sq ?_|refine rg ?_|refine xc ?_|refine nl ?_|refine sk ?_|refine rt ?_
    refine TX.im (own_nil TLI _) ?_
    exact r2 ⟨nS,sv3,rfl,by rw [show (2:Int) = 1 + 1 from rfl]⟩
  ·simp only [if_neg he2] at hpi ⊢
   rw [show dru tot x1 = 0 from if_neg he2] at h2
   generalize (drw tot x1).1.1 = n2 at *
   generalize (drw tot x1).1.2 = e2 at *
   generalize (drw tot x1).2 = x2 at *
   refine Tr.enter env _ Tryz.func58 (by kernel_rfl) rfl Tryz.ntmps58 rfl (by repeat (first | exact has00 | refine has01 ?_)) fun w0=>?_
   repeat' first|(refine gca ?_;first|(refine ca hck ?_;rintro _ _ ⟨rfl,rfl⟩)|(refine ca h1 ?_;rintro _ _ ⟨rfl,sv1,rfl⟩)|(refine ca (h2 sv1) ?_;rintro _ _ ⟨rfl,sv2,rfl⟩))|refine bx fun q=>?_|refine lda ?_|(refine wo ?_;first|(refine ao ?_;first|refine oa ?_)|refine oa ?_|refine ld ?_|refine lnm ?_)|(refine gc ?_;first|refine cf ?_|(refine cn (fun hB=>?_) (fun hB=>?_) <;> try (exfalso;omega)))|refine sq ?_|refine rg ?_|refine xc ?_|refine nl ?_|refine sk ?_|refine rt ?_
   refine TX.im (own_nil TLI _) ?_
   exact r2 ⟨nS,sv2,rfl,rfl⟩
 ·simp only [if_neg he1] at hpi ⊢
  rw [show dru cut.length x = 0 from if_neg he1] at h1
  generalize (drw cut.length x).1.1 = n2 at *
  generalize (drw cut.length x).1.2 = e2 at *
  generalize (drw cut.length x).2 = x2 at *
  refine Tr.enter env _ Tryz.func58 (by kernel_rfl) rfl Tryz.ntmps58 rfl (by repeat (first | exact has00 | refine has01 ?_)) fun w0=>?_
  repeat' first|(refine gca ?_;first|(refine ca hck ?_;rintro _ _ ⟨rfl,rfl⟩)|(refine ca h1 ?_;rintro _ _ ⟨rfl,sv1,rfl⟩))|refine bx fun q=>?_|refine lda ?_|(refine wo ?_;first|(refine ao ?_;first|refine oa ?_)|refine oa ?_|refine ld ?_|refine lnm ?_)|(refine gc ?_;first|refine cf ?_|(refine cn (fun hB=>?_) (fun hB=>?_) <;> try (exfalso;omega)))|refine sq ?_|refine rg ?_|refine xc ?_|refine nl ?_|refine sk ?_|refine rt ?_
  refine TX.im (own_nil TLI _) ?_
  exact r2 ⟨nS,sv1,rfl,rfl⟩
end Go.Art
namespace Go.Art
open Go Go.Proofs Go.RowKit
attribute [local irreducible] Fit pt own ro vw mpc lpt vels rels mow lrc dfr
theorem CopyInts_tr (a:Value) (xs:List Int) (hb:xs.length * 8 ≤ 140737488355328):Tr Tryz.prog 11 [a] [vw a (Is xs)] [] fun v D=>D = [own 3 v (Is xs)]:=by
 refine Tr.enter env _ Tryz.func11 (by kernel_rfl) rfl Tryz.ntmps11 rfl (by repeat (first | exact has00 | refine has01 ?_)) fun w0=>?_
 refine TC.leni (l:=xs) fun hl=>?_
 repeat' first|(refine wo ?_;first|refine oa ?_)|refine sq ?_|refine rg ?_|refine xc ?_|refine nl ?_
 refine sl0 fun v=>?_
 repeat' first|refine api (l:=[]) fun v=>?_|(refine wo ?_;first|refine oa ?_)|refine xc ?_|refine nl ?_|refine rt ?_
 exact r1 rfl
end Go.Art
namespace Go.Art
open Go Go.Proofs Go.RowKit
attribute [local irreducible] Fit pt own ro vw mpc lpt vels rels mow lrc dfr
end Go.Art
namespace Go.Art
open Go Go.Proofs Go.RowKit
def rloH (sv:Value) (x:Lw) (used:Int):List Value:=
 match x with
 | .inl st=>[nS,.bool true,U st,I used,.bool false]
 | .inr (_,br)=>[sv,.bool false,w0u,I used,.bool br]
section
variable {P:Program} {E:Env P} {n:Sh} {X:Cx} {s:List K} {fr:Fr} {A:List Ch} {ops:Array Oper} {rest:List Oper} {d:Nat} {ty t:TypeId} {pos:String} {after:Array Edge} {x:Operand} {dt:TypeDesc} {sz by_:Nat} {z:Value} {cs vs:List Value} {b j:Nat} {T:TypeId}
end
attribute [local irreducible] Fit pt own ro vw mpc lpt vels rels mow lrc dfr
attribute [local irreducible] lmp lme mit velg relg
theorem SameIntsT_tr (a b:Value) (xs:List Int):Tr Tryz.prog 16 [a,b] [vw a (Is xs),vw b (Is xs)] [] fun v D=>v = .bool true∧D = []:=
 (SameInts_tr a b xs xs).mono fun v D h=>by rw [decide_eq_true rfl] at h;exact h
end Go.Art
namespace Go.Art
open Go Go.Proofs Go.RowKit
def madeT (tbl:List Int) (k:Nat):List Int:=(tbl.take k).map fun x=>pick x 6
section
variable {P:Program} {E:Env P} {X:Cx} {fr:Fr} {A D G:List Ch} {n:Sh}
end
attribute [local irreducible] Fit pt own ro vw mpc lpt vels rels mow lrc dfr
attribute [local irreducible] lmp lme mit velg relg bnd owl madeT
section
variable {P:Program} {E:Env P} {n:Sh} {X:Cx} {s:List K} {fr:Fr} {A:List Ch} {ops:Array Oper} {rest:List Oper} {d:Nat} {ty tx asr:TypeId} {pos:String} {after:Array Edge} {v:Value} {x:Operand} {dd:TypeDesc}
end
end Go.Art
namespace Go.Art
open Go Go.Proofs Go.RowKit
attribute [local irreducible] Fit pt own ro vw mpc lpt vels rels mow lrc dfr
attribute [local irreducible] lmp lme mit velg relg bnd owl dfrl
end Go.Art
namespace Go.Art
open Go Go.Proofs Go.RowKit
theorem Tr.pre {P:Program} {f:FuncId} {args:List Value} {pre pre' A:List Ch} {R:Value→List Ch→Prop} (h:Tr P f args pre A R) (hp:∀ c ∈ pre,Has pre' c) (hl:∀ c ∈ pre',∀ b,¬ c.wr b∧¬ c.rd b):Tr P f args pre' A R:=
 ⟨fun w hw=>h.run w (lend (hw.perm List.perm_append_comm) hp),hl⟩
theorem FAdd2_tr (q r:Rat) (lv v1 v2 v3 v4:Value) (hq:FB q 8589934592) (hr:FB r 8589934592) :
  Tr Tryz.prog 73 [lv] [vwf lv 2 (rrow q (v1,v2) ++ rrow r (v3,v4)),vw v1 (Us (dg q.num.natAbs)),vw v2 (Us (dg q.den)),vw v3 (Us (dg r.num.natAbs)),vw v4 (Us (dg r.den))] [] (FQ2 (q + r) 0):=by
 have h:=FAdd_tr lv [q,r] [(v1,v2),(v3,v4)] rfl (fun i hi=>by
  match i,hi with
  | 0,_=>exact hq
  | 1,_=>exact hr) (fun i hi=>by
  match i,hi with
  | 0,_=>exact ⟨by rw [show (([q,r].take 0).foldl (· + ·) (0:Rat)).num.natAbs = 0 from rfl,dg_zero];exact Nat.zero_le _,by rw [show (([q,r].take 0).foldl (· + ·) (0:Rat)).den = 1 from rfl];exact Nat.le_trans (dg_len1 (by decide)) (by decide)⟩
  | 1,_=>
   show FB (0 + q) _
   rw [Rat.zero_add];exact hq)
 rw [show [q,r].foldl (· + ·) (0:Rat) = q + r by show 0 + q + r = q + r;rw [Rat.zero_add]] at h
 refine h.pre ?_ (by repeat (first | exact has00 | refine has01 ?_))
 refine has1 (has_vwf (List.Mem.head _)) (has1 (has_vfr_cons (has_vw (by simp)) (has_vw (by simp)) (has_vfr_cons (has_vw (by simp)) (has_vw (by simp)) has_vfr_nil)) has0)
structure WhG where
 i:Nat
 vn:Value
 vd:Value
attribute [local irreducible] Fit pt own ro vw mpc lpt vels rels mow lrc dfr
attribute [local irreducible] lmp lme mit velg relg bnd owl madeT
end Go.Art
namespace Go.Art
open Go Go.Proofs Go.RowKit
theorem Im.tail (c:Ch) (A:List Ch):Im (c :: A) A:=Im.trans (Im.perm (List.perm_append_comm (l₁:=[c]) (l₂:=A))) (Im.drop A [c])
theorem owl_set {e:TypeId} {g:Int→Value} {hs:List Value} {ls:List (List Int)} (hl:hs.length = ls.length) {i:Nat} (h:i < ls.length) (v:Value) (l:List Int) (F:List Ch):Im (own e v (l.map g) :: owl e g hs ls :: F) (owl e g (hs.set i v) (ls.set i l) :: F):=
 (Im.cons _ (owl_take hl h F)).trans ((Im.perm (List.Perm.swap _ _ _)).trans ((Im.tail _ _).trans (owl_put hl h v l F)))
theorem rcs_app {qs rs:List Rat} {hs gs:List (Value × Value)} (hl:hs.length = qs.length):rcs (qs ++ rs) (hs ++ gs) = rcs qs hs ++ rcs rs gs:=by
 unfold rcs
 rw [List.zipWith_append hl.symm,List.flatten_append]
theorem rcs_one (q:Rat) (h:Value × Value):rcs [q] [h] = rrow q h:=by simp [rcs]
theorem hp_len {hs:List (Value × Value)} {qs:List Rat} (hl:hs.length = qs.length):(hpc hs).length = (pcl qs).length:=by rw [hpc_len,pcl_len,hl]
theorem ofr_snoc {hs:List (Value × Value)} {qs:List Rat} (hl:hs.length = qs.length) (q:Rat) (v1 v2:Value) {A F:List Ch} (hf:Fit A [own T64 v1 (Us (dg q.num.natAbs)),own T64 v2 (Us (dg q.den)),ofr hs qs] F):Im A (ofr (hs ++ [(v1,v2)]) (qs ++ [q]) :: F):=by
 refine Im.trans hf ?_
 show Im (own T64 v1 (Us (dg q.num.natAbs)) :: own T64 v2 (Us (dg q.den)) :: owl T64 wU (hpc hs) (pcl qs) :: F) (owl T64 wU (hpc (hs ++ [(v1,v2)])) (pcl (qs ++ [q])) :: F)
 have h0:=hp_len hl
 rw [hpc_app,pcl_app,Us_eq,Us_eq]
 refine (Im.perm (List.Perm.swap _ _ _)).trans ((Im.cons _ (owl_snoc h0 v1 (Zs (dg q.num.natAbs)) F)).trans ?_)
 have:=owl_snoc (e:=T64) (g:=wU) (hs:=hpc hs ++ [v1]) (ls:=pcl qs ++ [Zs (dg q.num.natAbs)]) (by simp [h0]) v2 (Zs (dg q.den)) F
 rw [List.append_assoc,List.append_assoc] at this
 exact this
theorem has_ofr {F:List Ch} {hs:List (Value × Value)} {qs:List Rat} (hl:hs.length = qs.length) (h:ofr hs qs ∈ F):Has F (vfr hs qs):=has_owl (hp_len hl) h
def zrs (m:Nat):List Value:=(List.replicate m [Value.bool false,nS,nS]).flatten
section
variable {P:Program} {E:Env P} {n:Sh} {X:Cx} {s:List K} {fr:Fr} {A A':List Ch} {ops:Array Oper} {rest:List Oper} {d m N sz by_:Nat} {ty t t' el:TypeId} {pos:String} {after:Array Edge} {v u z:Value} {x y:Operand} {xs vs:List Value} {dt:TypeDesc} {k1 k':IntKind} {w:World}
end
end Go.Art
namespace Go.Art
open Go Go.RowKit
def noDef (ops:Array Oper):Bool:=ops.all fun o=>match o.op with
 | .defer _=>false
 | _=>true
theorem noDef_spec {ops:Array Oper} (h:noDef ops = true) {j:Nat} {oj:Oper} (hj:ops[j]? = some oj):∀ c,oj.op ≠ .defer c:=fun c e=>by
 have:=(Array.all_eq_true.1 h) j (by
  rcases Nat.lt_or_ge j ops.size with h1 | h1
  ·exact h1
  ·rw [Array.getElem?_eq_none h1] at hj;cases hj)
 have h2:ops[j]'(by
  rcases Nat.lt_or_ge j ops.size with h1 | h1
  ·exact h1
  ·rw [Array.getElem?_eq_none h1] at hj;cases hj) = oj:=by
  have h3:=(Array.getElem?_eq_some_iff.1 hj).2
  exact h3
 rw [h2] at this
 simp only [e] at this
 cases this
section
variable {F:Fence} {m:Nat} {P:Program} {md:Region.Mode} {ops:Array Oper} {Q:Exit→Act→World→Prop} {S:World→Prop}
theorem upon_move {o:Oper} {a b:Act} {K K':Act→World→Prop} {r:Result Next} (h1:∀ u w,K (b.put o.dst u) w→K' (a.put o.dst u) w) (h2:∀ d w,K (({ b with defers:=d :: b.defers }:Act).put o.dst undef) w→K' (({ a with defers:=d :: a.defers }:Act).put o.dst undef) w)
  (h3:∀ c w,Q (.panic c) b w→Q (.panic c) a w) (h:o.uponIn F m P b K Q r):o.uponIn F m P a K' Q r:=by
 cases r with
 | ok x w'=>
  cases x with
  | value u=>exact h1 _ _ h
  | skip=>exact h1 _ _ h
  | defer d=>exact h2 _ _ h
  | enter f args=>exact ⟨h.1,CallsIn.mono h.2 fun e w'' he=>match e,he with
   | .returned u,he=>h1 _ _ he
   | .panicked c,he=>h3 _ _ he
   | .outgrown,he=>he⟩
  | row row args=>exact ⟨h.1,RowsIn.mono h.2 fun u w'' he=>h1 _ _ he⟩
  | round l f tmps assign body=>exact ⟨h.1,RoundIn.mono h.2 fun e w'' he=>match e,he with
   | .returned u,he=>h1 _ _ he
   | .panicked c,he=>h3 _ _ he
   | .outgrown,he=>he⟩
  | _=>exact h
 | halt x w'=>
  cases x with
  | panic v=>exact h3 _ _ h
  | _=>exact h
theorem upon_own {o:Oper} {a:Act} {K:Act→World→Prop} {r:Result Next} (h:o.uponIn F m P a K Q r):o.uponIn F m P a (fun a' w'=>(∃ u df,a' = ({ a with defers:=df }:Act).put o.dst u)∧K a' w') Q r:=
 upon_move (fun u w h=>⟨⟨u,a.defers,rfl⟩,h⟩) (fun d w h=>⟨⟨undef,d :: a.defers,rfl⟩,h⟩) (fun _ _ h=>h) h
theorem op_ownR {j:Nat} {oj:Oper} {K:Act→World→Prop} {a:Act} {w:World} (hj:ops[j]? = some oj) (h:wpOpIn F m P ops Q j K a w) :
  wpOpIn F m P ops Q j (fun a' w'=>(∃ u df,a' = ({ a with defers:=df }:Act).put oj.dst u)∧K a' w') a w:=by
 unfold wpOpIn at *
 simp only [hj] at *
 split
 ·rename_i hw
  rw [if_pos hw] at h
  exact ⟨h.1,upon_own h.2⟩
 ·rename_i hw
  rw [if_neg hw] at h
  exact ⟨h.1,⟨_,a.defers,rfl⟩,h.2⟩
theorem op_putR {j d:Nat} {oi oj:Oper} {v:Value} {K:Act→World→Prop} {a:Act} {w:World} (hnd:∀ c,oj.op ≠ .defer c) (hj:ops[j]? = some oj) (hdi:oi.dst = some d) (hap:oi.apart ops oj = true) (hsj:∀ cs b,oj.op ≠ .select cs b) (hQ:∀ c a w,¬ Q (.panic c) a w)
  (h:wpOpIn F m P ops Q j K (a.put oi.dst v) w):wpOpIn F m P ops Q j (fun a' w'=>K (a'.put oi.dst v) w') a w:=by
 obtain ⟨p1,p2,p3⟩:=Oper.apart_spec hap
 unfold wpOpIn at *
 simp only [hj] at *
 rw [wanted_put oj a oi.dst v p1,about_put oj w a oi.dst v p1] at h
 split
 ·rename_i hw
  rw [if_pos hw] at h
  have h1:=h.1
  have h2:=h.2
  rw [Oper.semAt_eq _ _ _ hnd,execOp_put oj hsj a oi.dst v p1] at h2
  rw [about_put oj w a oi.dst v p1] at h1
  refine ⟨h1,?_⟩
  rw [Oper.semAt_eq _ _ _ hnd]
  refine upon_move (fun u w hk=>?_) (fun dd w hk=>?_) (fun c w hk=>absurd hk (hQ c _ w)) h2
  ·rw [← Act.put_comm a v u p2];exact hk
  ·rw [← Act.put_comm _ v undef p2,← Act.put_defers];exact hk
 ·rename_i hw
  rw [if_neg hw] at h
  refine ⟨h.1,?_⟩
  rw [← Act.put_comm a v undef p2];exact h.2
theorem wpAnyS_takeR {i d:Nat} {o:Op} {ty:TypeId} {pos:String} {after:Array Edge} {v:Value} (hnd:noDef ops = true) (hi:ops[i]? = some ⟨some d,o,ty,pos,after,none⟩) (hs:Region.noSelect ops = true) (hQ:∀ c a w,¬ Q (.panic c) a w) :
  ∀ (fuel:Nat) (listed:Array Bool) (a:Act) (w:World),Region.free md ops listed i = true→(Region.ready md ops listed).contains i = true→YS P S ⟨some d,o,ty,pos,after,none⟩ v a→S w →
   wpAnyS F m P md ops Q S fuel (listed.setIfInBounds i true) (a.put (some d) v) w→wpAnyS F m P md ops Q S (fuel + 1) listed a w:=by
 have hsel:=fun j oj cs b (h:ops[j]? = some oj)=>Region.noSelect_spec hs j oj cs b h
 have now:∀ (K:Act→World→Prop) (a:Act) (w:World),YS P S ⟨some d,o,ty,pos,after,none⟩ v a→S w→K (a.put (some d) v) w→wpOpIn F m P ops Q i K a w:=fun K a w hy hS h=>by
  unfold wpOpIn
  have hn:∀ c,(⟨some d,o,ty,pos,after,none⟩ : Oper).op ≠ .defer c:=noDef_spec hnd hi
  simp only [hi,Region.wanted,if_true,Oper.wpIn]
  rw [Oper.semAt_eq _ _ _ hn,(hy w hS).1]
  exact ⟨fun f hf=>(by rw [(hy w hS).2] at hf;cases hf),h⟩
 have gen:∀ (fuel:Nat) (listed:Array Bool) (a:Act) (w:World),(∀ j oj,ops[j]? = some oj→j ≠ i→listed.getD j true = false→(∀ e ∈ oj.after,Region.binds md e = true→e.on ≠ i)→Oper.apart ops ⟨some d,o,ty,pos,after,none⟩ oj = true) →
   i ∈ Region.ready md ops listed→YS P S ⟨some d,o,ty,pos,after,none⟩ v a→S w→wpAnyS F m P md ops Q S fuel (listed.setIfInBounds i true) (a.put (some d) v) w→wpAnyS F m P md ops Q S (fuel + 1) listed a w:=by
  intro fuel
  induction fuel with
  | zero=>
   intro listed a w _ hr hy hS H
   refine ⟨fun h=>(by rw [h] at hr;cases hr),fun j hj=>?_⟩
   by_cases hji:j = i
   ·subst hji;exact now _ a w hy hS ⟨hS,H⟩
   ·have:=ready_mono hj hji
    rw [H.1] at this
    cases this
  | succ fuel ih=>
   intro listed a w hfree hr hy hS H
   refine ⟨fun h=>(by rw [h] at hr;cases hr),fun j hj=>?_⟩
   by_cases hji:j = i
   ·subst hji;exact now _ a w hy hS ⟨hS,H⟩
   ·obtain ⟨hjun,oj,hoj,hall⟩:=mem_ready.1 hj
    have hnot:∀ e ∈ oj.after,Region.binds md e = true→e.on ≠ i:=fun e he hb heq=>by
     have h1:=hall e he hb
     have h0:=(mem_ready.1 hr).1
     rw [heq] at h1
     rcases Nat.lt_or_ge i listed.size with h' | h'
     ·simp [h'] at h0 h1;rw [h0] at h1;cases h1
     ·simp [Array.getElem?_eq_none h'] at h1
    have hap:=hfree j oj hoj hji hjun hnot
    obtain ⟨p1,p2,p3⟩:=Oper.apart_spec hap
    have h2:=op_putR (oi:=⟨some d,o,ty,pos,after,none⟩) (noDef_spec hnd hoj) hoj rfl hap (fun cs b=>hsel j oj cs b hoj) hQ (H.2 j (ready_mono hj hji))
    have h3:=op_ownR hoj h2
    refine wpOpIn_mono (fun a' w' h4=>?_) h3
    obtain ⟨⟨u,df,rfl⟩,hS',h5⟩:=h4
    have hy':YS P S ⟨some d,o,ty,pos,after,none⟩ v (({ a with defers:=df }:Act).put oj.dst u):=fun w hw=>by
     rw [execOp_put _ (fun cs b=>hsel i _ cs b hi) ({ a with defers:=df }:Act) oj.dst u p3,about_put _ w ({ a with defers:=df }:Act) oj.dst u p3]
     exact hy w hw
    have hfree':∀ k ok,ops[k]? = some ok→k ≠ i→(listed.setIfInBounds j true).getD k true = false→(∀ e ∈ ok.after,Region.binds md e = true→e.on ≠ i)→Oper.apart ops ⟨some d,o,ty,pos,after,none⟩ ok = true:=fun k ok hk hki hun hno=>by
     refine hfree k ok hk hki ?_ hno
     by_cases hjk:j = k
     ·subst hjk;exact hjun
     ·rw [getD_set_ne true hjk] at hun;exact hun
    refine ⟨hS',ih (listed.setIfInBounds j true) _ w' hfree' (ready_mono hr (Ne.symm hji)) hy' hS' ?_⟩
    rw [Array.setIfInBounds_comm _ _ hji]
    exact h5
 intro fuel listed a w hf hr hy hS H
 exact gen fuel listed a w (Region.free_spec hi hf) (by simpa using hr) hy hS H
end
section
variable {P:Program} {E:Env P} {n:Sh} {X:Cx} {s:List K} {fr:Fr} {A A' B:List Ch} {ops:Array Oper} {d:Nat} {o:Op} {ty:TypeId} {pos:String} {after:Array Edge} {v:Value} {fuel:Nat} {listed:Array Bool} {S:World→Prop}
theorem kr (i:Nat) (hv:∀ w,S w→OpV P n fr o ty w v w) (k:TS E n X s S ops fuel (listed.setIfInBounds i true) ((d,v) :: fr) A) (hi:ops[i]? = some ⟨some d,o,ty,pos,after,none⟩:=by rfl) (hs:Region.noSelect ops = true:=by kernel_rfl) (hf:Region.free .any ops listed i = true:=by kernel_rfl)
  (hr:(Region.ready .any ops listed).contains i = true:=by kernel_rfl) (hnd:noDef ops = true:=by kernel_rfl) (hd:Nat.blt d n.n = true:=by rfl) (hab:∀ w ρ,(⟨some d,o,ty,pos,after,none⟩ : Oper).about P w ρ = none:=by exact fun _ _=>rfl):TS E n X s S ops (fuel + 1) listed fr A:=
 ⟨fun w hw hS a ha=>wpAnyS_takeR hnd hi hs (fun c a w h=>h.1 c rfl) fuel listed a w hf hr (fun w' hw'=>⟨(hv w' hw').run a ha _ _ _ _,hab _ _⟩) hS (k.run w hw hS _ (ha.put hd v))⟩
theorem kra (i:Nat) (k:TS E n X s S ops fuel (listed.setIfInBounds i true) ((d,v) :: fr) A) (hi:ops[i]? = some ⟨some d,o,ty,pos,after,none⟩:=by rfl) (hv:evOp E fr o = some v:=by rfl) (hs:Region.noSelect ops = true:=by kernel_rfl) (hf:Region.free .any ops listed i = true:=by kernel_rfl)
  (hr:(Region.ready .any ops listed).contains i = true:=by kernel_rfl) (hnd:noDef ops = true:=by kernel_rfl) (hd:Nat.blt d n.n = true:=by rfl) (hab:∀ w ρ,(⟨some d,o,ty,pos,after,none⟩ : Oper).about P w ρ = none:=by exact fun _ _=>rfl):TS E n X s S ops (fuel + 1) listed fr A:=
 kr i (fun _ _=>R_auto hv) k hi hs hf hr hnd hd hab
theorem krl (i:Nat) {t:TypeId} {x:Operand} {b j:Nat} {cs:List Value} {T:TypeId} {dt:TypeDesc} (hm:∀ w,S w→w.heap[b]? = some (.cells cs.toArray T (0,0))) (k:TS E n X s S ops fuel (listed.setIfInBounds i true) ((d,v) :: fr) A) (hi:ops[i]? = some ⟨some d,.load t x,ty,pos,after,none⟩:=by rfl) (hx:ev fr x = some (.pointer (some ⟨b,j,none⟩)):=by rfl)
  (hj:cs[j]? = some v:=by rfl) (ht:lk E.und t = some dt:=by rfl) (hg:aggB dt = false:=by rfl) (hs:Region.noSelect ops = true:=by kernel_rfl) (hf:Region.free .any ops listed i = true:=by kernel_rfl)
  (hr:(Region.ready .any ops listed).contains i = true:=by kernel_rfl) (hnd:noDef ops = true:=by kernel_rfl) (hd:Nat.blt d n.n = true:=by rfl):TS E n X s S ops (fuel + 1) listed fr A:=
 kr i (fun w hw=>R_load ht hg hx (blk_cell (hm w hw) (by simpa using hj))) k hi hs hf hr hnd hd
end
end Go.Art
namespace Go.Art
end Go.Art
set_option maxRecDepth 4000
namespace Go.Art
open Go Go.Proofs Go.RowKit
attribute [local irreducible] Fit pt own ro vw mpc lpt vels rels mow lrc dfr
def upFrom (k:Int):Int→List Int→Bool
 | _,[]=>true
 | last,x :: r=>decide (last < x) && (decide (x < k) && upFrom k x r)
def isSet (k:Int) (l:List Int):Bool:=upFrom k (-1) l && decide (0 < l.length)
theorem drop_cons {l:List Int} {i:Nat} (h:i < l.length):l.drop i = l.getD i 0 :: l.drop (i + 1):=by
 rw [List.drop_eq_getElem_cons h];simp [List.getD_eq_getElem?_getD,h]
theorem and3_no {p q:Prop} [Decidable p] [Decidable q] (h:¬ (p∧q)) (b c:Bool):((decide p && (decide q && b)) && c) = false:=by
 by_cases hp:p <;> by_cases hq:q <;> simp_all
theorem and3_yes {p q:Prop} [Decidable p] [Decidable q] (h:p∧q) (b:Bool):(decide p && (decide q && b)) = b:=by simp [h.1,h.2]
theorem Set20_tr (k:Int) (s:Value) (l:List Int):Tr Tryz.prog 215 [I k,s] [vw s (Is l)] [] fun v D=>v = .bool (isSet k l)∧D = []:=by
 refine Tr.enter env _ Tryz.func215 (by kernel_rfl) rfl Tryz.ntmps215 rfl (by repeat (first | exact has00 | refine has01 ?_)) fun w0=>?_
 refine TC.leni (l:=l) fun hl=>?_
 repeat' first|(refine wo ?_;first|(refine ao ?_;first|refine aw ?_|refine aw6 ?_|refine oa ?_|refine adiv ?_|refine amod ?_|refine shr1 ?_|refine shr ?_|refine umod ?_|refine isl ?_|refine ipe ?_|refine ipn ?_|refine ibe ?_)|refine acw ?_|refine ucv ?_|refine anw ?_|refine oa ?_|refine ld ?_|refine ldl ?_|refine lnm ?_|refine ixmn ?_|refine ixm ?_|refine li ?_|refine lb ?_|refine lv ?_|refine ln ?_|refine ixn ?_|refine ix ?_|refine le ?_|refine sr ?_|refine soi ?_|refine sob ?_|refine scm ?_|refine sclm ?_|refine schm ?_|refine gy ?_|refine gn ?_|refine gnn ?_|refine gu ?_|(refine gsi (fun hB=>?_) (fun hB=>?_) <;> try (exfalso;omega))|(refine gsn (fun hB=>?_) (fun hB=>?_) <;> try (exfalso;omega))|(refine gs (fun hB=>?_) (fun hB=>?_) <;> try (exfalso;omega)))|(refine gc ?_;first|refine ct ?_|refine cf ?_|(refine ci (fun hB=>?_) (fun hB=>?_) <;> try (exfalso;omega))|(refine cn (fun hB=>?_) (fun hB=>?_) <;> try (exfalso;omega))|(refine cb (fun hB=>?_) (fun hB=>?_) <;> try (exfalso;omega)))|refine sq ?_|refine rg ?_|refine xc ?_|refine nl ?_|refine sk ?_|refine bk ?_|refine xe ?_|refine rt ?_|refine xb ?_
 refine TC.loop (ι:=Nat × Int) (fun i=>[(5,I i.1)]) (fun _=>[]) (fun i=>i.1 ≤ l.length∧upFrom k (-1) l = upFrom k i.2 (l.drop i.1)∧-1 ≤ i.2∧(i.1 = 0→i.2 = -1)∧(0 < i.1→i.2 = l.getD (i.1 - 1) 0)) (fun i=>l.length - i.1) (0,-1) [0,1] ⟨by simp,rfl,by simp,by simp,by simp⟩ ?_
 rintro ⟨i,la⟩ ⟨hi,hu,h1,h0,hp⟩
 dsimp only at hi hu h1 h0 hp ⊢
 by_cases hlt:i < l.length
 ·rw [drop_cons hlt] at hu
  simp only [upFrom] at hu
  have e1:((i:Int) - 1).toNat = i - 1:=by omega
  repeat' first|(refine wo ?_;first|(refine ao ?_;first|refine aw ?_|refine aw6 ?_|refine oa ?_|refine adiv ?_|refine amod ?_|refine shr1 ?_|refine shr ?_|refine umod ?_|refine isl ?_|refine ipe ?_|refine ipn ?_|refine ibe ?_)|refine acw ?_|refine ucv ?_|refine anw ?_|refine oa ?_|refine ld ?_|refine ldl ?_|refine lnm ?_|refine ixmn ?_|refine ixm ?_|refine li ?_|refine lb ?_|refine lv ?_|refine ln ?_|refine ixn ?_|refine ix ?_|refine le ?_|refine sr ?_|refine soi ?_|refine sob ?_|refine scm ?_|refine sclm ?_|refine schm ?_|refine gy ?_|refine gn ?_|refine gnn ?_|refine gu ?_|(refine gsi (fun hB=>?_) (fun hB=>?_) <;> try (exfalso;omega))|(refine gsn (fun hB=>?_) (fun hB=>?_) <;> try (exfalso;omega))|(refine gs (fun hB=>?_) (fun hB=>?_) <;> try (exfalso;omega)))|(refine gc ?_;first|refine ct ?_|refine cf ?_|(refine ci (fun hB=>?_) (fun hB=>?_) <;> try (exfalso;omega))|(refine cn (fun hB=>?_) (fun hB=>?_) <;> try (exfalso;omega))|(refine cb (fun hB=>?_) (fun hB=>?_) <;> try (exfalso;omega)))|refine sq ?_|refine rg ?_|refine xc ?_|refine nl ?_|refine sk ?_|refine bk ?_|refine xe ?_|refine rt ?_|refine xb ?_|refine rq ?_|refine nq ?_|(refine wq ?_;first|(refine qao ?_;first|refine qaw ?_|refine qa ?_|refine qibe ?_)|refine qacw ?_|refine qa ?_|refine qld ?_|refine qldl ?_|refine qlnm ?_|refine qixmn ?_|refine qixm ?_|refine qli ?_|refine qlb ?_|refine qlv ?_|refine qln ?_|refine qixn ?_|refine qix ?_|refine qle ?_|refine qgy ?_|refine qgn ?_|refine qgu ?_|(refine qgsi (fun hB=>?_) (fun hB=>?_) <;> try (exfalso;omega))|(refine qgsn (fun hB=>?_) (fun hB=>?_) <;> try (exfalso;omega))|(refine qgs (fun hB=>?_) (fun hB=>?_) <;> try (exfalso;omega)))
  all_goals try simp only [e1] at hB
  all_goals first
   | exact lp (i + 1,l.getD i 0) ⟨by dsimp only;omega,by rw [hu,and3_yes (by omega)],by dsimp only;omega,by simp,by simp⟩
   | (refine r1 ⟨?_,rfl⟩;rw [isSet,hu,and3_no (by omega)])
 ·repeat' first|(refine wo ?_;first|(refine ao ?_;first|refine aw ?_|refine aw6 ?_|refine oa ?_|refine adiv ?_|refine amod ?_|refine shr1 ?_|refine shr ?_|refine umod ?_|refine isl ?_|refine ipe ?_|refine ipn ?_|refine ibe ?_)|refine acw ?_|refine ucv ?_|refine anw ?_|refine oa ?_|refine ld ?_|refine ldl ?_|refine lnm ?_|refine ixmn ?_|refine ixm ?_|refine li ?_|refine lb ?_|refine lv ?_|refine ln ?_|refine ixn ?_|refine ix ?_|refine le ?_|refine sr ?_|refine soi ?_|refine sob ?_|refine scm ?_|refine sclm ?_|refine schm ?_|refine gy ?_|refine gn ?_|refine gnn ?_|refine gu ?_|(refine gsi (fun hB=>?_) (fun hB=>?_) <;> try (exfalso;omega))|(refine gsn (fun hB=>?_) (fun hB=>?_) <;> try (exfalso;omega))|(refine gs (fun hB=>?_) (fun hB=>?_) <;> try (exfalso;omega)))|(refine gc ?_;first|refine ct ?_|refine cf ?_|(refine ci (fun hB=>?_) (fun hB=>?_) <;> try (exfalso;omega))|(refine cn (fun hB=>?_) (fun hB=>?_) <;> try (exfalso;omega))|(refine cb (fun hB=>?_) (fun hB=>?_) <;> try (exfalso;omega)))|refine sq ?_|refine rg ?_|refine xc ?_|refine nl ?_|refine sk ?_|refine bk ?_|refine xe ?_|refine rt ?_|refine xb ?_
  rw [List.drop_of_length_le (by omega)] at hu
  refine r1 ⟨?_,rfl⟩
  rw [isSet,hu];simp [upFrom]
theorem fine_tr (k:Int) (s:Value) (l:List Int):Tr Tryz.prog 187 [I k,s] [vw s (Is l)] [] fun v D=>v = .bool (isSet k l)∧D = []:=by
 refine Tr.enter env _ Tryz.func187 (by kernel_rfl) rfl Tryz.ntmps187 rfl (by repeat (first | exact has00 | refine has01 ?_)) fun w0=>?_
 refine TC.leni (l:=l) fun hl=>?_
 repeat' first|(refine wo ?_;first|(refine ao ?_;first|refine aw ?_|refine aw6 ?_|refine oa ?_|refine adiv ?_|refine amod ?_|refine shr1 ?_|refine shr ?_|refine umod ?_|refine isl ?_|refine ipe ?_|refine ipn ?_|refine ibe ?_)|refine acw ?_|refine ucv ?_|refine anw ?_|refine oa ?_|refine ld ?_|refine ldl ?_|refine lnm ?_|refine ixmn ?_|refine ixm ?_|refine li ?_|refine lb ?_|refine lv ?_|refine ln ?_|refine ixn ?_|refine ix ?_|refine le ?_|refine sr ?_|refine soi ?_|refine sob ?_|refine scm ?_|refine sclm ?_|refine schm ?_|refine gy ?_|refine gn ?_|refine gnn ?_|refine gu ?_|(refine gsi (fun hB=>?_) (fun hB=>?_) <;> try (exfalso;omega))|(refine gsn (fun hB=>?_) (fun hB=>?_) <;> try (exfalso;omega))|(refine gs (fun hB=>?_) (fun hB=>?_) <;> try (exfalso;omega)))|(refine gc ?_;first|refine ct ?_|refine cf ?_|(refine ci (fun hB=>?_) (fun hB=>?_) <;> try (exfalso;omega))|(refine cn (fun hB=>?_) (fun hB=>?_) <;> try (exfalso;omega))|(refine cb (fun hB=>?_) (fun hB=>?_) <;> try (exfalso;omega)))|refine sq ?_|refine rg ?_|refine xc ?_|refine nl ?_|refine sk ?_|refine bk ?_|refine xe ?_|refine rt ?_|refine xb ?_
 refine TC.loop (ι:=Nat × Int) (fun i=>[(5,I i.2),(10,I i.1)]) (fun _=>[]) (fun i=>i.1 ≤ l.length∧upFrom k (-1) l = upFrom k i.2 (l.drop i.1)) (fun i=>l.length - i.1) (0,-1) [0,1,8,9] ⟨by simp,rfl⟩ ?_
 rintro ⟨i,la⟩ ⟨hi,hu⟩
 dsimp only at hi hu ⊢
 by_cases hlt:i < l.length
 ·rw [drop_cons hlt] at hu
  simp only [upFrom] at hu
  repeat' first|(refine wo ?_;first|(refine ao ?_;first|refine aw ?_|refine aw6 ?_|refine oa ?_|refine adiv ?_|refine amod ?_|refine shr1 ?_|refine shr ?_|refine umod ?_|refine isl ?_|refine ipe ?_|refine ipn ?_|refine ibe ?_)|refine acw ?_|refine ucv ?_|refine anw ?_|refine oa ?_|refine ld ?_|refine ldl ?_|refine lnm ?_|refine ixmn ?_|refine ixm ?_|refine li ?_|refine lb ?_|refine lv ?_|refine ln ?_|refine ixn ?_|refine ix ?_|refine le ?_|refine sr ?_|refine soi ?_|refine sob ?_|refine scm ?_|refine sclm ?_|refine schm ?_|refine gy ?_|refine gn ?_|refine gnn ?_|refine gu ?_|(refine gsi (fun hB=>?_) (fun hB=>?_) <;> try (exfalso;omega))|(refine gsn (fun hB=>?_) (fun hB=>?_) <;> try (exfalso;omega))|(refine gs (fun hB=>?_) (fun hB=>?_) <;> try (exfalso;omega)))|(refine gc ?_;first|refine ct ?_|refine cf ?_|(refine ci (fun hB=>?_) (fun hB=>?_) <;> try (exfalso;omega))|(refine cn (fun hB=>?_) (fun hB=>?_) <;> try (exfalso;omega))|(refine cb (fun hB=>?_) (fun hB=>?_) <;> try (exfalso;omega)))|refine sq ?_|refine rg ?_|refine xc ?_|refine nl ?_|refine sk ?_|refine bk ?_|refine xe ?_|refine rt ?_|refine xb ?_|refine rq ?_|refine nq ?_|(refine wq ?_;first|(refine qao ?_;first|refine qaw ?_|refine qa ?_|refine qibe ?_)|refine qacw ?_|refine qa ?_|refine qld ?_|refine qldl ?_|refine qlnm ?_|refine qixmn ?_|refine qixm ?_|refine qli ?_|refine qlb ?_|refine qlv ?_|refine qln ?_|refine qixn ?_|refine qix ?_|refine qle ?_|refine qgy ?_|refine qgn ?_|refine qgu ?_|(refine qgsi (fun hB=>?_) (fun hB=>?_) <;> try (exfalso;omega))|(refine qgsn (fun hB=>?_) (fun hB=>?_) <;> try (exfalso;omega))|(refine qgs (fun hB=>?_) (fun hB=>?_) <;> try (exfalso;omega)))
  all_goals first
   | exact lp (i + 1,l.getD i 0) ⟨by dsimp only;omega,by rw [hu,and3_yes (by omega)]⟩
   | (refine r1 ⟨?_,rfl⟩;rw [isSet,hu,and3_no (by omega)])
 ·repeat' first|(refine wo ?_;first|(refine ao ?_;first|refine aw ?_|refine aw6 ?_|refine oa ?_|refine adiv ?_|refine amod ?_|refine shr1 ?_|refine shr ?_|refine umod ?_|refine isl ?_|refine ipe ?_|refine ipn ?_|refine ibe ?_)|refine acw ?_|refine ucv ?_|refine anw ?_|refine oa ?_|refine ld ?_|refine ldl ?_|refine lnm ?_|refine ixmn ?_|refine ixm ?_|refine li ?_|refine lb ?_|refine lv ?_|refine ln ?_|refine ixn ?_|refine ix ?_|refine le ?_|refine sr ?_|refine soi ?_|refine sob ?_|refine scm ?_|refine sclm ?_|refine schm ?_|refine gy ?_|refine gn ?_|refine gnn ?_|refine gu ?_|(refine gsi (fun hB=>?_) (fun hB=>?_) <;> try (exfalso;omega))|(refine gsn (fun hB=>?_) (fun hB=>?_) <;> try (exfalso;omega))|(refine gs (fun hB=>?_) (fun hB=>?_) <;> try (exfalso;omega)))|(refine gc ?_;first|refine ct ?_|refine cf ?_|(refine ci (fun hB=>?_) (fun hB=>?_) <;> try (exfalso;omega))|(refine cn (fun hB=>?_) (fun hB=>?_) <;> try (exfalso;omega))|(refine cb (fun hB=>?_) (fun hB=>?_) <;> try (exfalso;omega)))|refine sq ?_|refine rg ?_|refine xc ?_|refine nl ?_|refine sk ?_|refine bk ?_|refine xe ?_|refine rt ?_|refine xb ?_
  rw [List.drop_of_length_le (by omega)] at hu
  refine r1 ⟨?_,rfl⟩
  rw [isSet,hu];simp [upFrom]
end Go.Art
set_option maxRecDepth 4000
namespace Go.Art
open Go Go.Proofs Go.RowKit
attribute [local irreducible] Fit pt own ro vw mpc lpt vels rels mow lrc dfr
/-! ### Which of the lists is so -/
theorem IndexFunc_tr (s:Value) (hs:List Value) (ls:List (List Int)) (f:FuncId) (cap:List Value) (pre:List Ch) (p:List Int→Bool)
  (hp:∀ c ∈ pre,∀ A:List Ch,c ∈ A→Has A c) (hf:∀ h l,l ∈ ls→Tr Tryz.prog f (h :: cap) (vw h (Is l) :: pre) [] fun v D=>v = .bool (p l)∧D = []) :
  Tr Tryz.prog 217 [s,.func (.func f) #[] cap.toArray] (vw s hs :: vels hs ls :: pre) [] fun v D=>(∃ i:Int,v = I i∧(0 ≤ i ↔ ls.any p = true))∧D = []:=by
 refine Tr.enter env _ Tryz.func217 (by kernel_rfl) rfl Tryz.ntmps217 rfl (has01 (has01 fun c hc b=>⟨(hp c hc [c] (by simp)).wr b,(hp c hc [c] (by simp)).rd b⟩)) fun w0=>?_
 refine TC.els (hs:=hs) (ls:=ls) (fun hl=>?_)
 refine TC.fact (vw_len (v:=s) (xs:=hs) hasA) fun hlen=>?_
 repeat' first|(refine wo ?_;first|refine oa ?_|refine ln ?_)|refine sq ?_|refine rg ?_|refine xc ?_|refine nl ?_|refine bk ?_
 refine TC.loop (ι:=Nat) (fun i=>[(8,I i)]) (fun _=>[]) (fun i=>i ≤ ls.length∧∀ j,j < i→p (ls.getD j []) = false) (fun i=>ls.length - i) 0 [0,1,6,7] ⟨by omega,by omega⟩ ?_
 rintro i ⟨h1,h2⟩
 by_cases hi:i < ls.length
 ·have hmem:ls.getD i [] ∈ ls:=by rw [List.getD_eq_getElem?_getD,List.getElem?_eq_getElem hi];exact List.getElem_mem hi
  repeat' first|(refine cav (vs:=[hs.getD i nS]) (cap:=cap.toArray) (hf _ _ hmem) ?_ rfl rfl Fit.nil (has1 (has_el (has_vels (by simp)) hi) (fun c hc=>hp c hc _ (by simp [hc]))) rfl;rintro _ _ ⟨rfl,rfl⟩)|(refine wo ?_;first|(refine ao ?_;first|refine aw ?_|refine oa ?_)|refine oa ?_|refine lv ?_|refine ixn ?_)|(refine gc ?_;first|(refine ci (fun hB=>?_) (fun hB=>?_) <;> try (exfalso;omega))|(refine cb (fun hB=>?_) (fun hB=>?_) <;> try (exfalso;omega)))|refine sq ?_|refine rg ?_|refine xc ?_|refine nl ?_|refine sk ?_|refine bk ?_|refine rt ?_|refine xb ?_
  ·exact r1 ⟨⟨i,rfl,fun _=>List.any_eq_true.2 ⟨_,hmem,hB⟩,fun _=>by omega⟩,rfl⟩
  ·refine lp (i + 1) ⟨by omega,fun j hj=>?_⟩
   by_cases e:j = i
   ·rw [e];exact hB
   ·exact h2 j (by omega)
 ·repeat' first|(refine wo ?_;first|(refine ao ?_;first|refine oa ?_)|refine oa ?_)|(refine gc ?_;first|(refine ci (fun hB=>?_) (fun hB=>?_) <;> try (exfalso;omega)))|refine sq ?_|refine rg ?_|refine xc ?_|refine nl ?_|refine xe ?_|refine rt ?_
  refine r1 ⟨⟨-1,rfl,by omega,fun h=>?_⟩,rfl⟩
  obtain ⟨l,hl1,hl2⟩:=List.any_eq_true.1 h
  obtain ⟨j,hj,rfl⟩:=List.mem_iff_getElem.1 hl1
  have:=h2 j (by omega)
  simp [List.getD_eq_getElem?_getD,hj,hl2] at this
theorem ContainsFunc_tr (s:Value) (hs:List Value) (ls:List (List Int)) (f:FuncId) (cap:List Value) (pre:List Ch) (p:List Int→Bool)
  (hp:∀ c ∈ pre,∀ A:List Ch,c ∈ A→Has A c) (hf:∀ h l,l ∈ ls→Tr Tryz.prog f (h :: cap) (vw h (Is l) :: pre) [] fun v D=>v = .bool (p l)∧D = []) :
  Tr Tryz.prog 185 [s,.func (.func f) #[] cap.toArray] (vw s hs :: vels hs ls :: pre) [] fun v D=>v = .bool (ls.any p)∧D = []:=by
 refine Tr.enter env _ Tryz.func185 (by kernel_rfl) rfl Tryz.ntmps185 rfl (has01 (has01 fun c hc b=>⟨(hp c hc [c] (by simp)).wr b,(hp c hc [c] (by simp)).rd b⟩)) fun w0=>?_
 repeat' first|(refine gca ?_;first|(refine ca (vs:=[s,.func (.func f) #[] cap.toArray]) (IndexFunc_tr s hs ls f cap pre p hp hf) ?_ rfl Fit.nil (has1 (has_vw (by simp)) (has1 (has_vels (by simp)) (fun c hc=>hp c hc _ (by simp [hc])))) rfl;rintro _ _ ⟨⟨i,rfl,hi⟩,rfl⟩))|(refine wo ?_;first|(refine ao ?_;first|refine oa ?_)|refine oa ?_)|refine sq ?_|refine rg ?_|refine xc ?_|refine nl ?_|refine rt ?_
 refine r1 ⟨?_,rfl⟩
 congr 1;rw [Bool.eq_iff_iff,decide_eq_true_iff];exact hi
/-! ### In how many symbols two sets meet -/
def meetN (a b:List Int):Nat:=(a.filter fun x=>decide (x ∈ b)).length
end Go.Art
set_option maxRecDepth 4000
namespace Go.Art
open Go Go.Proofs Go.RowKit
attribute [local irreducible] Fit pt own ro vw mpc lpt vels rels mow lrc dfr
def stopE (k:Int) (ls:List (List Int)):Int:=if k < 1∨65536 < k then 3 else if ls.any (fun l=>!isSet k l) then 2 else 0
theorem refuses1_tr (k:Int) (b:Nat) (h:Value) (l:List Int):Tr Tryz.prog 186 [h,ptr b] [vw h (Is l),lpt b [I k] 3] [] fun v D=>v = .bool (!isSet k l)∧D = []:=by
 refine Tr.enter env _ Tryz.func186 (by kernel_rfl) rfl Tryz.ntmps186 rfl (by repeat (first | exact has00 | refine has01 ?_)) fun w0=>?_
 repeat' first|(refine gca ?_;first|(refine ca (fine_tr _ _ _) ?_;rintro _ _ ⟨rfl,rfl⟩))|(refine wo ?_;first|refine oa ?_|refine ldl ?_)|refine sq ?_|refine rg ?_|refine xc ?_|refine nl ?_|refine rt ?_
 exact r1 ⟨rfl,rfl⟩
theorem lpt_hasS {b:Nat} {cs:List Value} {T:TypeId}:∀ c ∈ [lpt b cs T],∀ A:List Ch,c ∈ A→Has A c:=fun c hc A h=>by
 obtain rfl:c = lpt b cs T:=by simpa using hc
 exact has_lpt h
theorem refuses_tr (k:Int) (s:Value) (hs:List Value) (ls:List (List Int)):Tr Tryz.prog 156 [I k,s] [vw s hs,vels hs ls] [] fun v D=>v = I (stopE k ls)∧D = []:=by
 refine Tr.enter env _ Tryz.func156 (by kernel_rfl) rfl Tryz.ntmps156 rfl (by repeat (first | exact has00 | refine has01 ?_)) fun w0=>?_
 repeat' first|(refine gca ?_;first|(refine ca (ContainsFunc_tr s hs ls _ [ptr b] [lpt b [I k] 3] (fun l=>!isSet k l) lpt_hasS (fun h l _=>refuses1_tr k b h l)) ?_;rintro _ _ ⟨rfl,rfl⟩))|refine bx1 fun b=>?_|(refine wo ?_;first|(refine ao ?_;first|refine oa ?_)|refine oa ?_|refine ld ?_|refine gy ?_|refine gn ?_|(refine gsi (fun hB=>?_) (fun hB=>?_) <;> try (exfalso;omega)))|(refine gc ?_;first|refine ct ?_|(refine ci (fun hB=>?_) (fun hB=>?_) <;> try (exfalso;omega))|(refine cb (fun hB=>?_) (fun hB=>?_) <;> try (exfalso;omega)))|refine sq ?_|refine rg ?_|refine xc ?_|refine nl ?_|refine sk ?_|refine bk ?_|refine rt ?_|refine xb ?_
 ·exact r1 ⟨by rw [stopE,if_pos (.inl hB)],rfl⟩
 ·exact r1 ⟨by rw [stopE,if_pos (.inr hB)],rfl⟩
 ·exact r1 ⟨by rw [stopE,if_neg (by omega),if_pos hB],rfl⟩
 ·exact r1 ⟨by rw [stopE,if_neg (by omega),if_neg (by rw [hB];decide)],rfl⟩
theorem rrefuses_tr (k:Int) (s:Value) (hs:List Value) (ls:List (List Int)):Tr Tryz.prog 181 [I k,s] [vw s hs,vels hs ls] [] fun v D=>v = I (stopE k ls)∧D = []:=by
 refine Tr.enter env _ Tryz.func181 (by kernel_rfl) rfl Tryz.ntmps181 rfl (by repeat (first | exact has00 | refine has01 ?_)) fun w0=>?_
 refine TC.els (hs:=hs) (ls:=ls) (fun hl=>?_)
 refine TC.fact (vw_len (v:=s) (xs:=hs) hasA) fun hlen=>?_
 repeat' first|(refine wo ?_;first|(refine ao ?_;first|refine oa ?_)|refine oa ?_|refine gy ?_|refine gn ?_|(refine gsi (fun hB=>?_) (fun hB=>?_) <;> try (exfalso;omega)))|(refine gc ?_;first|refine ct ?_|(refine ci (fun hB=>?_) (fun hB=>?_) <;> try (exfalso;omega)))|refine sq ?_|refine rg ?_|refine xc ?_|refine nl ?_|refine sk ?_|refine bk ?_|refine rt ?_
 ·exact r1 ⟨by rw [stopE,if_pos (.inl hB)],rfl⟩
 ·exact r1 ⟨by rw [stopE,if_pos (.inr hB)],rfl⟩
 ·refine TC.loop (ι:=Nat) (fun i=>[(5,I i)]) (fun _=>[]) (fun i=>i ≤ ls.length∧∀ j,j < i→isSet k (ls.getD j []) = true) (fun i=>ls.length - i) 0 [0,1] ⟨by omega,by omega⟩ ?_
  rintro i ⟨h1,h2⟩
  by_cases hi:i < ls.length
  ·repeat' first|(refine gca ?_;first|(refine ca (Set20_tr _ _ (ls.getD i [])) ?_;rintro _ _ ⟨rfl,rfl⟩))|(refine wo ?_;first|(refine ao ?_;first|refine aw ?_|refine oa ?_)|refine oa ?_|refine lv ?_|refine ln ?_|refine ixn ?_)|(refine gc ?_;first|(refine ci (fun hB=>?_) (fun hB=>?_) <;> try (exfalso;omega))|(refine cb (fun hB=>?_) (fun hB=>?_) <;> try (exfalso;omega)))|refine sq ?_|refine rg ?_|refine xc ?_|refine nl ?_|refine sk ?_|refine bk ?_|refine rt ?_|refine xb ?_
   ·refine r1 ⟨?_,rfl⟩
    rw [stopE,if_neg (by omega),if_pos]
    refine List.any_eq_true.2 ⟨ls.getD i [],?_,hB⟩
    rw [List.getD_eq_getElem?_getD,List.getElem?_eq_getElem hi];exact List.getElem_mem hi
   ·refine lp (i + 1) ⟨by omega,fun j hj=>?_⟩
    by_cases e:j = i
    ·rw [e];simpa using hB
    ·exact h2 j (by omega)
  ·repeat' first|(refine wo ?_;first|(refine ao ?_;first|refine oa ?_)|refine oa ?_|refine ln ?_)|(refine gc ?_;first|(refine ci (fun hB=>?_) (fun hB=>?_) <;> try (exfalso;omega)))|refine sq ?_|refine rg ?_|refine xc ?_|refine nl ?_|refine xe ?_|refine rt ?_
   refine r1 ⟨?_,rfl⟩
   rw [stopE,if_neg (by omega),if_neg]
   intro h
   obtain ⟨l,hl1,hl2⟩:=List.any_eq_true.1 h
   obtain ⟨j,hj,rfl⟩:=List.mem_iff_getElem.1 hl1
   have:=h2 j (by omega)
   simp [List.getD_eq_getElem?_getD,hj] at this
   simp [this] at hl2
/-! ### Stopping sets -/
theorem upFrom_sorted {k:Int}:∀ {l:List Int} {a:Int},upFrom k a l = true→(∀ i,i < l.length→a < l.getD i 0∧l.getD i 0 < k)∧∀ i j,i < j→j < l.length→l.getD i 0 < l.getD j 0
 | [],_,_=>⟨fun i h=>by simp at h,fun i j _ h=>by simp at h⟩
 | x :: r,a,h=>by
  simp only [upFrom,Bool.and_eq_true,decide_eq_true_eq] at h
  obtain ⟨h1,h2⟩:=upFrom_sorted h.2.2
  constructor
  ·intro i hi
   cases i with
   | zero=>exact ⟨h.1,h.2.1⟩
   | succ i=>have:=h1 i (by simpa using hi);simp only [List.getD_cons_succ];omega
  ·intro i j hij hj
   cases j with
   | zero=>omega
   | succ j=>
    cases i with
    | zero=>have:=h1 j (by simpa using hj);simp only [List.getD_cons_succ,List.getD_cons_zero];omega
    | succ i=>simp only [List.getD_cons_succ];exact h2 i j (by omega) (by simpa using hj)
theorem upFrom_len {k:Int}:∀ {l:List Int} {a:Int},upFrom k a l = true→(l.length:Int) ≤ k - 1 - a∨l = []
 | [],_,_=>.inr rfl
 | x :: r,a,h=>by
  simp only [upFrom,Bool.and_eq_true,decide_eq_true_eq] at h
  rcases upFrom_len h.2.2 with h1 | h1
  ·left;simp only [List.length_cons];omega
  ·subst h1;left;simp only [List.length_cons,List.length_nil];omega
theorem isSet_sorted {k:Int} {l:List Int} (h:isSet k l = true):(∀ i,i < l.length→0 ≤ l.getD i 0∧l.getD i 0 < k)∧∀ i j,i < j→j < l.length→l.getD i 0 < l.getD j 0:=by
 simp only [isSet,Bool.and_eq_true] at h
 have:=upFrom_sorted h.1
 exact ⟨fun i hi=>by have:=this.1 i hi;omega,this.2⟩
theorem isSet_len {k:Int} {l:List Int} (h:isSet k l = true):(l.length:Int) ≤ k:=by
 simp only [isSet,Bool.and_eq_true,decide_eq_true_eq] at h
 rcases upFrom_len h.1 with h1 | h1
 ·omega
 ·subst h1;simp at h
def isStop (ls:List (List Int)) (t:List Int):Bool:=!ls.any fun l=>decide ((meetN l t:Int) = 1)
def stopping (k:Int) (ls:List (List Int)) (t:List Int):Bool × Int:=if stopE k ls ≠ 0 then (false,stopE k ls) else if isSet k t = false then (false,2) else (isStop ls t,0)
end Go.Art
set_option maxRecDepth 4000
namespace Go.Art
open Go Go.Proofs Go.RowKit
attribute [local irreducible] Fit pt own ro vw mpc lpt vels rels mow lrc dfr
def meetC (l t:List Int):Nat:=(t.map fun x=>l.count x).sum
theorem nodup_sorted {l:List Int} (h:∀ i j,i < j→j < l.length→l.getD i 0 < l.getD j 0):l.Nodup:=by
 rw [List.nodup_iff_pairwise_ne,List.pairwise_iff_getElem]
 intro i j hi hj hij e
 have:=h i j hij hj
 simp [List.getD_eq_getElem?_getD,hi,hj,e] at this
end Go.Art
set_option maxRecDepth 4000
namespace Go.Art
open Go
inductive Kn (ls:List (List Int)):Int→Prop
 | mk (l:List Int) (s:Int) (hl:l ∈ ls) (hs:s ∈ l) (h:∀ x ∈ l,x ≠ s→Kn ls x):Kn ls s
def cnt (p:Int→Bool) (l:List Int):Nat:=(l.filter p).length
theorem cnt_one {p:Int→Bool} {l:List Int} (h:cnt p l = 1):∃ s,s ∈ l∧p s = true∧∀ x ∈ l,p x = true→x = s:=by
 unfold cnt at h
 obtain ⟨s,hs⟩:=List.length_eq_one_iff.1 h
 have hm:∀ x,x ∈ l∧p x = true ↔ x = s:=fun x=>by rw [← List.mem_filter,hs];simp
 exact ⟨s,((hm s).2 rfl).1,((hm s).2 rfl).2,fun x hx hp=>(hm x).1 ⟨hx,hp⟩⟩
theorem cnt_one_of {p:Int→Bool} {l:List Int} (hn:l.Nodup) {s:Int} (hs:s ∈ l) (hp:p s = true) (h:∀ x ∈ l,x ≠ s→p x = false):cnt p l = 1:=by
 have hm:∀ x,x ∈ l.filter p ↔ x = s:=fun x=>by
  rw [List.mem_filter]
  constructor
  ·rintro ⟨h1,h2⟩
   by_cases e:x = s
   ·exact e
   ·rw [h x h1 e] at h2;cases h2
  ·rintro rfl;exact ⟨hs,hp⟩
 have hnd:(l.filter p).Nodup:=hn.sublist List.filter_sublist
 unfold cnt
 cases hf:l.filter p with
 | nil=>have:=(hm s).2 rfl;rw [hf] at this;cases this
 | cons a r=>
  rw [hf] at hm hnd
  cases r with
  | nil=>rfl
  | cons b r=>
   have h1:=(hm a).1 (by simp)
   have h2:=(hm b).1 (by simp)
   simp [h1,h2] at hnd
theorem Kn.not {ls:List (List Int)} {p:Int→Bool} (hn:∀ l ∈ ls,l.Nodup) (h:∀ l ∈ ls,cnt p l ≠ 1) {s:Int} (hk:Kn ls s):p s = false:=by
 induction hk with
 | mk l s hl hs _ ih=>
  cases hp:p s with
  | false=>rfl
  | true=>exact absurd (cnt_one_of (hn l hl) hs hp ih) (h l hl)
theorem Kn.of_cnt {ls:List (List Int)} {p:Int→Bool} {l:List Int} (hl:l ∈ ls) (h:cnt p l = 1) (hp:∀ x ∈ l,p x = false→Kn ls x) {s:Int} (hs:s ∈ l) (hps:p s = true):Kn ls s:=by
 obtain ⟨s',h1,h2,h3⟩:=cnt_one h
 obtain rfl:=h3 s hs hps
 exact .mk l s hl hs fun x hx hne=>hp x hx (by
  cases hq:p x with
  | false=>rfl
  | true=>exact absurd (h3 x hx hq) hne)
def belowI (k:Int):List Int:=(List.range k.toNat).map (fun i:Nat=>(i:Int))
theorem belowI_len (k:Int):(belowI k).length = k.toNat:=by simp [belowI]
theorem belowI_get {k:Int} {i:Nat} (h:i < k.toNat):(belowI k).getD i 0 = i:=by simp [belowI,List.getD_eq_getElem?_getD,h]
theorem mem_belowI {k x:Int}:x ∈ belowI k ↔ 0 ≤ x∧x < k:=by
 simp only [belowI,List.mem_map,List.mem_range]
 constructor
 ·rintro ⟨i,h,rfl⟩;omega
 ·rintro ⟨h1,h2⟩;exact ⟨x.toNat,by omega,by omega⟩
theorem belowI_sorted (k:Int):(belowI k).Pairwise (· < ·):=by
 unfold belowI
 rw [List.pairwise_map]
 exact List.pairwise_lt_range.imp fun h=>by omega
open Classical in
noncomputable def knownL (k:Int) (ls:List (List Int)):List Int:=(belowI k).filter fun s=>decide (Kn ls s)
open Classical in
noncomputable def largeL (k:Int) (ls:List (List Int)):List Int:=(belowI k).filter fun s=>!decide (Kn ls s)
theorem known_of {k:Int} {ls:List (List Int)} (p:Int→Bool) (h:∀ s,0 ≤ s→s < k→(p s = true ↔ ¬ Kn ls s)):knownL k ls = (belowI k).filter (fun s=>!p s)∧largeL k ls = (belowI k).filter p:=by
 constructor
 ·refine List.filter_congr fun s hs=>?_
  have:=h s (mem_belowI.1 hs).1 (mem_belowI.1 hs).2
  cases hp:p s <;> simp_all
 ·refine List.filter_congr fun s hs=>?_
  have:=h s (mem_belowI.1 hs).1 (mem_belowI.1 hs).2
  cases hp:p s <;> simp_all
theorem isSet_of {k:Int}:∀ {l:List Int} {a:Int},(a :: l).Pairwise (· < ·)→(∀ x ∈ l,x < k)→upFrom k a l = true
 | [],_,_,_=>rfl
 | x :: r,a,h,hk=>by
  obtain ⟨h1,h2⟩:=List.pairwise_cons.1 h
  simp only [upFrom,Bool.and_eq_true,decide_eq_true_eq]
  exact ⟨h1 x (by simp),hk x (by simp),isSet_of h2 fun y hy=>hk y (by simp [hy])⟩
theorem isSet_iff {k:Int} {l:List Int}:isSet k l = true ↔ l ≠ []∧l.Pairwise (· < ·)∧∀ x ∈ l,0 ≤ x∧x < k:=by
 constructor
 ·intro h
  have h1:=isSet_sorted h
  refine ⟨fun e=>by subst e;simp [isSet] at h,?_,fun x hx=>?_⟩
  ·rw [List.pairwise_iff_getElem]
   intro i j hi hj hij
   have:=h1.2 i j hij hj
   simpa [List.getD_eq_getElem?_getD,hi,hj] using this
  ·obtain ⟨i,hi,rfl⟩:=mem_getD.1 hx;exact h1.1 i hi
 ·rintro ⟨h1,h2,h3⟩
  simp only [isSet,Bool.and_eq_true,decide_eq_true_eq]
  exact ⟨isSet_of (List.pairwise_cons.2 ⟨fun x hx=>by have:=h3 x hx;omega,h2⟩) fun x hx=>(h3 x hx).2,List.length_pos_iff.2 h1⟩
theorem isSet_nodup {k:Int} {l:List Int} (h:isSet k l = true):l.Nodup:=nodup_sorted (isSet_sorted h).2
theorem cnt_drop {p q:Int→Bool} {s:Int} (hs:p s = true) (hq:q s = false) (h:∀ x,x ≠ s→q x = p x):∀ {l:List Int},l.Nodup→cnt p l = cnt q l + if s ∈ l then 1 else 0
 | [],_=>rfl
 | x :: r,hn=>by
  obtain ⟨h1,h2⟩:=List.nodup_cons.1 hn
  have ih:=cnt_drop hs hq h h2
  unfold cnt at ih ⊢
  rw [List.filter_cons,List.filter_cons]
  by_cases e:x = s
  ·subst e
   rw [if_pos hs,if_neg (by simp [hq]),List.length_cons,ih,if_neg h1,if_pos (by simp)]
  ·rw [h x e]
   have hm:s ∈ x :: r ↔ s ∈ r:=by simp [Ne.symm e]
   simp only [hm]
   cases p x <;> simp <;> omega
theorem stopE_zero {k:Int} {ls:List (List Int)} (h:stopE k ls = 0):1 ≤ k∧k ≤ 65536∧∀ l ∈ ls,isSet k l = true:=by
 unfold stopE at h
 split at h
 ·cases h
 ·split at h
  ·cases h
  ·rename_i h1 h2
   refine ⟨by omega,by omega,fun l hl=>?_⟩
   cases hs:isSet k l with
   | true=>rfl
   | false=>exact absurd (List.any_eq_true.2 ⟨l,hl,by simp [hs]⟩) h2
end Go.Art
set_option maxRecDepth 4000
namespace Go.Art
open Go Go.Proofs Go.RowKit
attribute [local irreducible] Fit pt own ro vw mpc lpt vels rels mow lrc dfr
def left (G:Int→Option Value) (x:Int):Bool:=(G x).isSome
theorem ones_some {G:Int→Option Value} {x:Int} {v:Value} (h:G x = some v):ones G x = some (one v):=by unfold ones;rw [h];rfl
theorem ones_none {G:Int→Option Value} {x:Int} (h:G x = none):ones G x = none:=by unfold ones;rw [h];rfl
def loneL (many:List Int) (G:Int→Option Value) (ls:List (List Int)) (i:Nat):List Int:=if many.getD i 0 = 1 then (ls.getD i []).filter (left G) else []
set_option maxRecDepth 4000 in
theorem lone_tr (i:Nat) (bm bs bl bq b:Nat) (mv s qv:Value) (many q:List Int) (hs:List Value) (ls:List (List Int)) (G:Int→Option Value) (g:Int→List Int) (hi:i < ls.length) (hm:many.length = ls.length) (hq:q.length + (ls.getD i []).length ≤ 1099511627776) :
  Tr Tryz.prog 189 [I i,ptr bm,ptr bs,ptr bl,ptr bq] [lpt bm [mv] 22,vw mv (Is many),lpt bs [s] 26,vw s hs,vels hs ls,lpt bl [mp b] 164] [pt bq [qv] 192,own 3 qv (Is q),mow 3 b G g none]
  fun v D=>v = .tuple #[]∧∃ qv',D = [pt bq [qv'] 192,own 3 qv' (Is (q ++ loneL many G ls i)),mow 3 b G g none]:=by
 refine Tr.enter env _ Tryz.func189 (by kernel_rfl) rfl Tryz.ntmps189 rfl (by repeat (first | exact has00 | refine has01 ?_)) fun w0=>?_
 refine TC.els (hs:=hs) (ls:=ls) (fun hl=>?_)
 refine TC.one (v:=qv) (xs:=Is q) fun hqv=>?_
 refine TC.fact (mow_one (T:=3) (b:=b) (G:=G) (f:=g) (o:=none) (by simp)) fun hGo=>?_
 unfold loneL
 repeat' first|(refine wo ?_;first|(refine ao ?_;first|refine oa ?_)|refine oa ?_|refine ldl ?_|refine lnm ?_|refine ixmn ?_|refine li ?_|refine lv ?_|refine ixn ?_)|(refine gc ?_;first|(refine cn (fun hB=>?_) (fun hB=>?_) <;> try (exfalso;omega)))|refine sq ?_|refine rg ?_|refine xc ?_|refine nl ?_|refine sk ?_|refine bk ?_|refine rt ?_
 ·rw [if_neg (by assumption)]
  exact r0 ⟨rfl,qv,by rw [List.append_nil]⟩
 rw [if_pos (by assumption)]
 generalize hL:ls.getD i [] = L at *
 refine TC.loop (ι:=Nat × Value) (fun j=>[(20,I j.1)]) (fun j=>[pt bq [j.2] 192,own 3 j.2 (Is (q ++ (L.take j.1).filter (left G)))]) (fun j=>j.1 ≤ L.length∧j.2.oneCell' = true) (fun j=>L.length - j.1) (0,qv) [0,1,2,3,4,18,19] ⟨by simp,hqv⟩ ?_ (hf:=by simp only [List.take_zero,List.filter_nil,List.append_nil];exact fitA)
 rintro ⟨j,qw⟩ ⟨h1,h2⟩
 dsimp only at h1 h2 ⊢
 subst hL
 by_cases hj:j < (ls.getD i []).length
 ·have hts:=take_succ' hj 0
  have hfl:(((ls.getD i []).take j).filter (left G)).length ≤ j:=Nat.le_trans (List.length_filter_le _ _) (List.length_take_le _ _)
  cases hG:G ((ls.getD i []).getD j 0) with
  | none=>
   have hG1:=ones_none hG
   have hf1:((ls.getD i []).take (j + 1)).filter (left G) = ((ls.getD i []).take j).filter (left G):=by rw [hts,List.filter_append,List.filter_cons,if_neg (by rw [left,hG];decide)];simp
   repeat' first|refine moN ?_ hG1|refine al fun bw=>?_|refine sra ?_|(refine wo ?_;first|(refine ao ?_;first|refine aw ?_|refine oa ?_)|refine oa ?_|refine ldl ?_|refine ixmn ?_|refine li ?_)|(refine gc ?_;first|refine cf ?_|(refine ci (fun hB=>?_) (fun hB=>?_) <;> try (exfalso;omega)))|refine sq ?_|refine rg ?_|refine xc ?_|refine nl ?_|refine sk ?_|refine bk ?_|refine xb ?_
   refine lp (j + 1,qw) ⟨by dsimp only;omega,h2⟩ (hf:=by dsimp only;rw [hf1];exact fitA)
  | some v=>
   have hG1:=ones_some hG
   have hvo:=hGo _ _ nofun hG
   have hf1:q ++ ((ls.getD i []).take (j + 1)).filter (left G) = (q ++ ((ls.getD i []).take j).filter (left G)) ++ [(ls.getD i []).getD j 0]:=by rw [hts,List.filter_append,List.append_assoc];congr 2;rw [List.filter_cons,if_pos (by rw [left,hG];rfl)];rfl
   repeat' first|refine moS ?_ hG1|refine al fun bw=>?_|refine sra ?_|refine slii [(ls.getD i []).getD j 0] fun v1=>?_|(refine wo ?_;first|(refine ao ?_;first|refine oa ?_)|refine oa ?_|refine ld ?_|refine ldl ?_|refine ixmn ?_|refine li ?_)|(refine gc ?_;first|refine ct ?_|(refine ci (fun hB=>?_) (fun hB=>?_) <;> try (exfalso;omega)))|refine sq ?_|refine rg ?_|refine xc ?_|refine nl ?_|refine sk ?_|refine bk ?_
   refine api (v:=qw) (news:=[(ls.getD i []).getD j 0]) fun v2=>?_
   refine TO.one (v:=v2) (xs:=Is ((q ++ ((ls.getD i []).take j).filter (left G)) ++ [(ls.getD i []).getD j 0])) fun hv2=>?_
   repeat' first|(refine wo ?_;first|(refine ao ?_;first|refine aw ?_)|refine oa ?_|refine sr ?_)|refine rg ?_|refine xc ?_|refine nl ?_|refine xb ?_
   refine lp (j + 1,v2) ⟨by dsimp only;omega,hv2⟩ (hf:=by dsimp only;rw [hf1];exact fitA)
 ·obtain rfl:j = (ls.getD i []).length:=by omega
  rw [List.take_length]
  repeat' first|(refine wo ?_;first|(refine ao ?_;first|refine oa ?_))|(refine gc ?_;first|(refine ci (fun hB=>?_) (fun hB=>?_) <;> try (exfalso;omega)))|refine sq ?_|refine rg ?_|refine xc ?_|refine nl ?_|refine xe ?_
  exact e0 ⟨rfl,qw,rfl⟩
end Go.Art
set_option maxRecDepth 4000
namespace Go.Art
open Go Go.Proofs Go.RowKit
attribute [local irreducible] Fit pt own ro vw mpc lpt vels rels mow lrc dfr
theorem next_tr (bq:Nat) (qv:Value) (x:Int) (r:List Int):Tr Tryz.prog 190 [ptr bq] [] [pt bq [qv] 192,own 3 qv (Is (x :: r))] fun v D=>v = I x∧∃ qv',D = [pt bq [qv'] 192,own 3 qv' (Is r)]:=by
 refine Tr.enter env _ Tryz.func190 (by kernel_rfl) rfl Tryz.ntmps190 rfl (by repeat (first | exact has00 | refine has01 ?_)) fun w0=>?_
 refine TC.leni (l:=x :: r) fun hl=>?_
 have h0:0 < (x :: r).length:=by simp
 repeat' first|refine sclm (l:=x :: r) ?_|(refine wo ?_;first|refine oa ?_|refine ld ?_|refine ixmn ?_|refine li ?_)|refine sq ?_|refine rg ?_|refine xc ?_|refine nl ?_
 refine TO.im (Im.trans (Tk.there Tk.here) (Im1.im (im_subi 3 qv (x :: r) (lo:=1) (hi:=(x :: r).length) (by simp) (Nat.le_refl _)) _)) ?_
 refine TO.one (v:=slSub qv 1 (x :: r).length) (xs:=Is (((x :: r).take (x :: r).length).drop 1)) fun hv=>?_
 repeat' first|(refine wo ?_;first|refine oa ?_|refine sr ?_)|refine sq ?_|refine rg ?_|refine xc ?_|refine nl ?_|refine rt ?_
 rw [List.take_length]
 exact r1 ⟨rfl,slSub qv 1 (x :: r).length,rfl⟩
theorem not_mem_take {l:List Int} (h:∀ i j,i < j→j < l.length→l.getD i 0 < l.getD j 0) {m:Nat} (hm:m < l.length):l.getD m 0 ∉ l.take m:=by
 intro hmem
 obtain ⟨j,hj,e⟩:=mem_getD.1 hmem
 have hj':j < m:=by simp at hj;omega
 have h1:=h j m hj' hm
 have h2:(l.take m).getD j 0 = l.getD j 0:=by simp [List.getD_eq_getElem?_getD,List.getElem?_take,hj']
 rw [h2] at e;omega
def idx (ls:List (List Int)) (x:Int) (i:Nat):List Int:=((List.range i).filter fun j=>decide (x ∈ ls.getD j [])).map fun j:Nat=>(j:Int)
theorem idx_succ (ls:List (List Int)) (x:Int) (i:Nat):idx ls x (i + 1) = idx ls x i ++ if x ∈ ls.getD i [] then [(i:Int)] else []:=by
 unfold idx
 rw [List.range_succ,List.filter_append,List.map_append]
 congr 1
 by_cases h:x ∈ ls.getD i []
 ·rw [if_pos h,List.filter_cons,if_pos (by simpa using h)];rfl
 ·rw [if_neg h,List.filter_cons,if_neg (by simpa using h)];rfl
theorem mem_idx {ls:List (List Int)} {x y:Int} {n:Nat}:y ∈ idx ls x n ↔ ∃ j:Nat,y = j∧j < n∧x ∈ ls.getD j []:=by
 unfold idx
 simp only [List.mem_map,List.mem_filter,List.mem_range,decide_eq_true_eq]
 constructor
 ·rintro ⟨j,⟨h1,h2⟩,rfl⟩;exact ⟨j,rfl,h1,h2⟩
 ·rintro ⟨j,rfl,h1,h2⟩;exact ⟨j,⟨h1,h2⟩,rfl⟩
theorem idx_len (ls:List (List Int)) (x:Int) (n:Nat):(idx ls x n).length ≤ n:=by
 unfold idx;rw [List.length_map];exact Nat.le_trans (List.length_filter_le _ _) (by simp)
theorem idx_nodup (ls:List (List Int)) (x:Int) (n:Nat):(idx ls x n).Nodup:=by
 unfold idx
 rw [List.nodup_iff_pairwise_ne,List.pairwise_map]
 exact ((List.pairwise_lt_range (n:=n)).sublist List.filter_sublist).imp fun h e=>by omega
structure UInv (k:Int) (ls:List (List Int)) (G:Int→Option Value) (g:Int→List Int) (many q:List Int):Prop where
 dom:∀ x,left G x = true→0 ≤ x∧x < k
 sets:∀ x,left G x = true→g x = idx ls x ls.length
 gone:∀ x,0 ≤ x→x < k→left G x = false→Kn ls x
 len:many.length = ls.length
 que:∀ x ∈ q,0 ≤ x∧x < k∧Kn ls x
 size:q.length + cnt (left G) (belowI k) * (ls.length + 1) ≤ (k.toNat + 1) * (ls.length + 1)
def Fine1 (ls:List (List Int)) (G:Int→Option Value) (many q:List Int) (i:Nat):Prop:=
 many.getD i 0 = cnt (left G) (ls.getD i [])∧(cnt (left G) (ls.getD i []) = 1→∀ x ∈ ls.getD i [],left G x = true→x ∈ q)
theorem getD_mem {ls:List (List Int)} {i:Nat} (h:i < ls.length):ls.getD i [] ∈ ls:=by rw [List.getD_eq_getElem?_getD,List.getElem?_eq_getElem h];exact List.getElem_mem h
theorem UInv.end {k:Int} {ls:List (List Int)} {G:Int→Option Value} {g:Int→List Int} {many:List Int} (h:UInv k ls G g many []) (hs:∀ l ∈ ls,isSet k l = true) (hf:∀ i,i < ls.length→Fine1 ls G many [] i) (x:Int) (h0:0 ≤ x) (hk:x < k):left G x = true ↔ ¬ Kn ls x:=by
 constructor
 ·intro hl hkn
  have:=hkn.not (p:=left G) (fun l hl=>isSet_nodup (hs l hl)) (fun l hl hc=>by
   obtain ⟨i,hi,rfl⟩:=List.mem_iff_getElem.1 hl
   have h1:=hf i hi
   rw [show ls[i] = ls.getD i [] by simp [List.getD_eq_getElem?_getD,hi]] at hc
   obtain ⟨s,hs1,hs2,_⟩:=cnt_one hc
   have:=h1.2 hc s hs1 hs2
   cases this)
  rw [this] at hl;cases hl
 ·intro hkn
  cases hc:left G x with
  | true=>rfl
  | false=>exact absurd (h.gone x h0 hk hc) hkn
theorem lone_inv {k:Int} {ls:List (List Int)} {G:Int→Option Value} {g:Int→List Int} {many q:List Int} {i B:Nat} (h:UInv k ls G g many q) (hs:∀ l ∈ ls,isSet k l = true) (hi:i < ls.length) (hm:many.getD i 0 = cnt (left G) (ls.getD i []))
  (hB:q.length + cnt (left G) (belowI k) * (ls.length + 1) + B + 1 ≤ (k.toNat + 1) * (ls.length + 1)) :
  UInv k ls G g many (q ++ loneL many G ls i)∧Fine1 ls G many (q ++ loneL many G ls i) i∧(∀ x ∈ q,x ∈ q ++ loneL many G ls i)∧(q ++ loneL many G ls i).length + cnt (left G) (belowI k) * (ls.length + 1) + B ≤ (k.toNat + 1) * (ls.length + 1):=by
 have hln:(loneL many G ls i).length ≤ 1:=by
  unfold loneL
  split
  ·rename_i h1;rw [hm] at h1;have:cnt (left G) (ls.getD i []) = 1:=by omega
   exact Nat.le_of_eq this
  ·simp
 refine ⟨⟨h.dom,h.sets,h.gone,h.len,fun x hx=>?_,by rw [List.length_append];omega⟩,⟨hm,fun hc x hx hl=>?_⟩,fun x hx=>List.mem_append_left _ hx,by rw [List.length_append];omega⟩
 ·rcases List.mem_append.1 hx with hx | hx
  ·exact h.que x hx
  ·unfold loneL at hx
   split at hx
   ·rename_i h1;rw [hm] at h1
    obtain ⟨h2,h3⟩:=List.mem_filter.1 hx
    have hd:=h.dom x h3
    refine ⟨hd.1,hd.2,Kn.of_cnt (getD_mem hi) (by omega) (fun y hy hly=>?_) h2 h3⟩
    have hy':=(isSet_iff.1 (hs _ (getD_mem hi))).2.2 y hy
    exact h.gone y hy'.1 hy'.2 hly
   ·cases hx
 ·refine List.mem_append_right _ ?_
  unfold loneL
  rw [if_pos (by rw [hm,hc];rfl)]
  exact List.mem_filter.2 ⟨hx,hl⟩
theorem left_set (G:Int→Option Value) (x:Int) (v:Value) (hx:left G x = true) (y:Int):left (setK G x (some v)) y = left G y:=by
 unfold left at *
 by_cases e:y = x
 ·rw [e,setK_eq,hx];rfl
 ·rw [setK_ne _ _ e]
theorem left_del (G:Int→Option Value) (x:Int):left (setK G x none) x = false:=by unfold left;rw [setK_eq];rfl
theorem left_del_ne (G:Int→Option Value) {x y:Int} (h:y ≠ x):left (setK G x none) y = left G y:=by unfold left;rw [setK_ne _ _ h]
structure VInv (k:Int) (ls:List (List Int)) (G:Int→Option Value) (g:Int→List Int) (x:Int) (W many q r:List Int) (j:Nat):Prop where
 inv:UInv k ls G g many q
 many:∀ i,i < ls.length→many.getD i 0 = cnt (left G) (ls.getD i []) + (if x ∈ ls.getD i []∧(i:Int) ∉ W.take j then 1 else 0)
 fine:∀ i,i < ls.length→(x ∉ ls.getD i []∨(i:Int) ∈ W.take j)→cnt (left G) (ls.getD i []) = 1→∀ y ∈ ls.getD i [],left G y = true→y ∈ q
 bud:q.length + cnt (left G) (belowI k) * (ls.length + 1) + (W.length - j) + 1 ≤ (k.toNat + 1) * (ls.length + 1)
 qlen:q.length ≤ r.length + j
theorem VInv.start {k:Int} {ls:List (List Int)} {G:Int→Option Value} {g:Int→List Int} {many r:List Int} {x:Int} (h:UInv k ls G g many (x :: r)) (hs:∀ l ∈ ls,isSet k l = true) (hf:∀ i,i < ls.length→Fine1 ls G many (x :: r) i) (hx:left G x = true) :
  VInv k ls (setK G x none) g x (idx ls x ls.length) many r r 0:=by
 have hd:=h.dom x hx
 have hcd:∀ {l:List Int},l.Nodup→cnt (left G) l = cnt (left (setK G x none)) l + if x ∈ l then 1 else 0:=fun hn=>cnt_drop hx (left_del G x) (fun y hy=>left_del_ne G hy) hn
 have hb:=hcd (l:=belowI k) ((belowI_sorted k).imp fun h e=>by omega)
 rw [if_pos (mem_belowI.2 hd)] at hb
 have hsz:=h.size
 rw [hb,Nat.add_mul,Nat.one_mul] at hsz
 simp only [List.length_cons] at hsz
 have hil:=idx_len ls x ls.length
 refine ⟨⟨fun y hy=>?_,fun y hy=>?_,fun y h0 hk hy=>?_,h.len,fun y hy=>h.que y (by simp [hy]),by omega⟩,fun i hi=>?_,fun i hi hor hc y hy hl=>?_,by omega,by omega⟩
 ·by_cases e:y = x
  ·rw [e];exact hd
  ·rw [left_del_ne G e] at hy;exact h.dom y hy
 ·by_cases e:y = x
  ·rw [e,left_del] at hy;cases hy
  ·rw [left_del_ne G e] at hy;exact h.sets y hy
 ·by_cases e:y = x
  ·rw [e];exact (h.que x (by simp)).2.2
  ·rw [left_del_ne G e] at hy;exact h.gone y h0 hk hy
 ·rw [(hf i hi).1,hcd (isSet_nodup (hs _ (getD_mem hi)))]
  by_cases e:x ∈ ls.getD i []
  ·rw [if_pos e,if_pos ⟨e,by simp⟩];rfl
  ·rw [if_neg e,if_neg (fun h=>e h.1)];rfl
 ·have hxn:x ∉ ls.getD i []:=by
   rcases hor with h1 | h1
   ·exact h1
   ·simp at h1
  have hc1:=hcd (isSet_nodup (hs _ (getD_mem hi)))
  rw [if_neg hxn,hc] at hc1
  have hyx:y ≠ x:=fun e=>hxn (e ▸ hy)
  rw [left_del_ne G hyx] at hl
  rcases List.mem_cons.1 ((hf i hi).2 hc1 y hy hl) with e | h2
  ·exact absurd e hyx
  ·exact h2
theorem VInv.step {k:Int} {ls:List (List Int)} {G:Int→Option Value} {g:Int→List Int} {many q r:List Int} {x:Int} {j i:Nat} (h:VInv k ls G g x (idx ls x ls.length) many q r j) (hs:∀ l ∈ ls,isSet k l = true) (hj:j < (idx ls x ls.length).length) (hi:(idx ls x ls.length).getD j 0 = i) :
  i < ls.length∧VInv k ls G g x (idx ls x ls.length) (many.set i (many.getD i 0 - 1)) (q ++ loneL (many.set i (many.getD i 0 - 1)) G ls i) r (j + 1):=by
 generalize hW:idx ls x ls.length = W at *
 have hmem:(i:Int) ∈ W:=mem_getD.2 ⟨j,hj,hi⟩
 obtain ⟨i',e,hil,hxi⟩:=mem_idx.1 (hW ▸ hmem)
 obtain rfl:i = i':=by omega
 have hnd:W.Nodup:=hW ▸ idx_nodup ls x ls.length
 have hnt:(i:Int) ∉ W.take j:=by
  intro hm
  obtain ⟨m,hm1,hm2⟩:=List.mem_iff_getElem.1 hm
  have hmj:m < j:=by simp at hm1;omega
  have hi':W[j] = (i:Int):=by rw [← hi];simp [List.getD_eq_getElem?_getD,hj]
  have hm3:W[m]'(by omega) = W[j]:=by rw [hi',← hm2];simp
  have:=(List.getElem_inj hnd).1 hm3
  omega
 have htk:W.take (j + 1) = W.take j ++ [(i:Int)]:=by rw [take_succ' hj 0,hi]
 have hmi:=h.many i hil
 rw [if_pos ⟨hxi,hnt⟩] at hmi
 have hlt:i < many.length:=by rw [h.inv.len];exact hil
 have hget:∀ m,(many.set i (many.getD i 0 - 1)).getD m 0 = if i = m then many.getD i 0 - 1 else many.getD m 0:=fun m=>getD_set many i m _ hlt
 have hinv:UInv k ls G g (many.set i (many.getD i 0 - 1)) q:=⟨h.inv.dom,h.inv.sets,h.inv.gone,by simp [h.inv.len],h.inv.que,h.inv.size⟩
 obtain ⟨l1,l2,l3,l4⟩:=lone_inv (B:=W.length - (j + 1) + 1) hinv hs hil (by rw [hget,if_pos rfl,hmi];omega) (by have:=h.bud;omega)
 refine ⟨hil,l1,fun m hm=>?_,fun m hm hor hc y hy hl=>?_,by omega,?_⟩
 ·rw [hget,htk]
  by_cases e:i = m
  ·subst e;rw [if_pos rfl,hmi,if_neg (by simp)];omega
  ·rw [if_neg e,h.many m hm]
   congr 1
   have:((m:Int) ∈ W.take j ++ [(i:Int)]) ↔ (m:Int) ∈ W.take j:=by simp;omega
   simp only [this]
 ·by_cases e:i = m
  ·subst e;exact l2.2 hc y hy hl
  ·refine l3 y (h.fine m hm (hor.imp id fun h1=>?_) hc y hy hl)
   rw [htk,List.mem_append] at h1
   rcases h1 with h1 | h1
   ·exact h1
   ·simp at h1;omega
 ·rw [List.length_append]
  have h2:=h.qlen
  have h3:(loneL (many.set i (many.getD i 0 - 1)) G ls i).length ≤ 1:=by
   unfold loneL
   split
   ·rename_i h1;rw [l2.1] at h1
    have:cnt (left G) (ls.getD i []) = 1:=by omega
    exact Nat.le_of_eq this
   ·simp
  omega
theorem VInv.end {k:Int} {ls:List (List Int)} {G:Int→Option Value} {g:Int→List Int} {many q r:List Int} {x:Int} (h:VInv k ls G g x (idx ls x ls.length) many q r (idx ls x ls.length).length):UInv k ls G g many q∧∀ i,i < ls.length→Fine1 ls G many q i:=by
 have hor:∀ i,i < ls.length→(x ∉ ls.getD i []∨(i:Int) ∈ (idx ls x ls.length).take (idx ls x ls.length).length):=fun i hi=>by
  rw [List.take_length]
  by_cases e:x ∈ ls.getD i []
  ·exact .inr (mem_idx.2 ⟨i,rfl,hi,e⟩)
  ·exact .inl e
 refine ⟨h.inv,fun i hi=>⟨?_,h.fine i hi (hor i hi)⟩⟩
 rw [h.many i hi,if_neg]
 ·simp
 ·rintro ⟨h1,h2⟩
  rcases hor i hi with h3 | h3
  ·exact h3 h1
  ·exact h2 h3
end Go.Art
