/- Texts put together: Nn No Np Ar Nu Nv Qa Qb Qc Rp Qp Qq Rx Rw Hp Hq Ak. Conditions: none. -/
import Derived.Test.YtbdmhamjhkibgaaGreatZGd
set_option linter.unusedSimpArgs false
set_option linter.unusedVariables false
namespace Go.Art
open Go Go.Proofs Go.RowKit
section
variable {P : Program}
theorem run_room_z (w : World) (t tn ty e : TypeId) (i : TypeInfo) (z : Value) (k kn : IntKind) (ht : P.underlying t = some (.slice e)) (htn : P.underlying tn = some (.int kn)) (hi : P.info? e = some i) (hz : i.zero = some z) (hs : i.size = 1) (hz1 : z.cells = #[z]) (ho : z.oneCell' = true)
    (g o sLen sCap : Nat) (cur : Array Value) (hg : w.heap[g]? = some (.cells cur e (0, 0))) (n : Nat) (h0 : 0 < n) (h63 : (n : Int) ≤ 9223372036854775807) (h48 : n * i.bytes ≤ 281474976710656) (hroom : sLen + n ≤ sCap) (hfit : o + sLen + n ≤ cur.size) :
    (Builtin.append_ #[t, tn] ty #[.slice (some ⟨g, o, none⟩) sLen sCap, .int k n]).run P w =
      .ok (.slice (some ⟨g, o, none⟩) (sLen + n) sCap) (w.setRow g (cur.toList.take (o + sLen) ++ List.replicate n z ++ cur.toList.drop (o + sLen + n)).toArray) := by
  have hw : IntKind.i64.wrap (n : Int) = n := by rw [IntKind.wrap_i64]; omega
  have h48i : ¬ (281474976710656 < (n : Int) * (i.bytes : Int)) := by rw [← Int.natCast_mul]; omega
  have hneg : ¬ ((n : Int) < 0) := by omega
  have hns : n ≠ 0 := by omega
  have hst := run_storeCells_at P g (o + sLen) e (List.replicate n z) 0 cur w hg (by simpa using hfit) (fun c hc => by rw [List.eq_of_mem_replicate hc]; exact ho)
  simp only [Nat.add_zero, List.length_replicate] at hst
  simp [Builtin.append_, run_underlying ht, run_underlying htn, sizeOf, typeInfo, zeroValue, hi, hz, hz1, hs, zeroCells1, asInt, asIntOf, hw, hneg, hns, h48i, hroom, Addr.add_lit, hst]
theorem run_same_z (w : World) (t tn ty e : TypeId) (i : TypeInfo) (k kn : IntKind) (ht : P.underlying t = some (.slice e)) (htn : P.underlying tn = some (.int kn)) (hi : P.info? e = some i) (b : Option Addr) (sLen sCap : Nat) (hle : sLen ≤ sCap) :
    (Builtin.append_ #[t, tn] ty #[.slice b sLen sCap, .int k 0]).run P w = .ok (.slice b sLen sCap) w := by
  have hw : IntKind.i64.wrap 0 = 0 := by rw [IntKind.wrap_i64]; omega
  cases b <;> simp [Builtin.append_, run_underlying ht, run_underlying htn, sizeOf, typeInfo, hi, asInt, asIntOf, hw, hle, storeCells]
theorem run_grow_z (w : World) (t tn ty e : TypeId) (i : TypeInfo) (z : Value) (k kn : IntKind) (ht : P.underlying t = some (.slice e)) (htn : P.underlying tn = some (.int kn)) (hi : P.info? e = some i) (hz : i.zero = some z) (hs : i.size = 1) (hz1 : z.cells = #[z])
    (b : Addr) (sLen sCap : Nat) (olds : List Value) (hlo : olds.length = sLen * i.size) (holds : ∀ j v, olds[j]? = some v → w.cell? (b.add j) = some v) (n : Nat) (h0 : 0 < n) (h63 : ((sLen + n : Nat) : Int) ≤ 9223372036854775807) (h48 : n * i.bytes ≤ 281474976710656) (hg : sCap < sLen + n) (hfit : Builtin.nextslicecap (sLen + n) sCap * i.bytes ≤ 281474976710656) :
    (Builtin.append_ #[t, tn] ty #[.slice (some b) sLen sCap, .int k n]).run P w =
      .ok (.slice (some ⟨w.heap.size, 0, none⟩) (sLen + n) (grownCap w (sLen + n) sCap e)) (w.drew.alloc (.cells (olds.toArray ++ (List.replicate n z).toArray ++ (List.replicate (grownCap w (sLen + n) sCap e - (sLen + n)) z).toArray) e)) := by
  have hn : ¬ (sLen + n ≤ sCap) := by omega
  have hw : IntKind.i64.wrap (n : Int) = n := by rw [IntKind.wrap_i64]; omega
  have h48i : ¬ (281474976710656 < (n : Int) * (i.bytes : Int)) := by rw [← Int.natCast_mul]; omega
  have hneg : ¬ ((n : Int) < 0) := by omega
  have hns : n ≠ 0 := by omega
  have h63' : ¬ (9223372036854775807 < ((sLen : Int) + (n : Int))) := by omega
  have h48' : ¬ (281474976710656 < Builtin.nextslicecap (sLen + n) sCap * i.bytes) := by omega
  have hfo := run_firstCells_some (P := P) w.drew i.size sLen b sLen sCap olds hlo (by simpa using holds)
  rw [hs] at hfo
  simp [Builtin.append_, run_underlying ht, run_underlying htn, sizeOf, typeInfo, zeroValue, hi, hz, hz1, hs, zeroCells1, asInt, asIntOf, hw, hneg, hns, h48i, hn, h63', h48', Question.forced, hfo, newRow, grownCap]
variable {E : Env P} {n : Sh} {X : Cx} {s : List K} {fr : Fr} {A A' : List Ch} {ops : Array Oper} {rest : List Oper} {d : Nat} {ty t t' : TypeId} {pos : String} {after : Array Edge} {x y : Operand} {w : World} {v u z : Value} {by_ : Nat} {xs : List Value} {e : TypeId} {k1 kn : IntKind} {m : Int}
theorem run_appendZ (t0 : TypeId) (w : World) (ht : lk E.und t = some (.slice e)) (htn : lk E.und t' = some (.int kn)) (he : lk E.inf e = some (z, 1, by_)) (hz : z.cells = #[z]) (hz1 : z.oneCell' = true) (hown : OwnO w e v xs) {k : Nat} (hl : xs.length + k ≤ 17592186044416) (hb : by_ ≤ 8) :
    ∃ v' w', (Builtin.append_ #[t, t'] t0 #[v, .int k1 k]).run P w = .ok v' w' ∧ OwnO w' e v' (xs ++ List.replicate k z) ∧ Upd w w' v.ownBlock.toList ∧ ∀ b, v'.ownBlock = some b → v.ownBlock = some b ∨ w.heap.size ≤ b := by
  obtain ⟨inf, hi, hiz, his, hib⟩ := E.info he
  have hk8 : k * inf.bytes ≤ 281474976710656 := by rw [hib]; have := Nat.mul_le_mul (show k ≤ 17592186044416 by omega) hb; omega
  have hl8 : (xs.length + k) * by_ ≤ 140737488355328 := by have := Nat.mul_le_mul hl hb; omega
  rcases Nat.eq_zero_or_pos k with rfl | hpos
  · rw [List.replicate_zero, List.append_nil]
    obtain ⟨a, c, rfl, hc, _⟩ := hown.sl
    exact ⟨_, w, run_same_z w t t' t0 e inf k1 kn (E.un ht) (E.un htn) hi a xs.length c hc, hown, Upd.refl _ _, fun _ h => .inl h⟩
  · have hupd : ∀ (o : Obj) (S : List Nat), Upd w (w.drew.alloc o) S := fun o S => ((Upd.drew w).trans (Upd.alloc w.drew o)).weak (by simp)
    rcases hown with ⟨rfl, rfl⟩ | ⟨g, o, cap, cur, rfl, hg, h2, h3, h4, h5⟩
    · have hr := Lib.run_append_nil_zeros (P := P) w t t' t0 e inf z k1 kn (E.un ht) (E.un htn) hi hiz k hpos (by rw [his]; decide) (by omega) hk8
      have hge := grownCap_ge w k 0 e
      refine ⟨_, _, hr, .inr ⟨w.heap.size, 0, grownCap w k 0 e, _, by simp, heap_alloc_new w.drew _, by simpa using hge, grownCap_le_maxLen w k 0 e (by unfold maxLen; omega), ?_, ?_⟩, hupd _ _, fun b hb => .inr (by cases hb; exact Nat.le_refl _)⟩
      · rw [hz, zeroCells1, zeroCells1]; simp; omega
      · rw [hz, zeroCells1, zeroCells1]; simp
    · by_cases hroom : xs.length + k ≤ cap
      · have hr := run_room_z w t t' t0 e inf z k1 kn (E.un ht) (E.un htn) hi hiz his hz hz1 g o xs.length cap cur hg k hpos (by omega) hk8 hroom (by omega)
        refine ⟨_, _, hr, .inr ⟨g, o, cap, _, by simp, setRow_heap w g cur _ e _ hg, by simpa using hroom, h3, ?_, ?_⟩, Upd.setRow w g _, fun _ h => .inl h⟩
        · simp only [List.size_toArray, List.length_append, List.length_take, List.length_drop, Array.length_toList, List.length_replicate]; omega
        · have hcl : cur.toList.length = cur.size := Array.length_toList
          rw [List.append_assoc, List.drop_append_of_le_length (by rw [List.length_take, hcl]; omega), show List.drop o (List.take (o + xs.length) cur.toList) = List.take xs.length (List.drop o cur.toList) by rw [List.drop_take, Nat.add_sub_cancel_left]]
          rw [h5, ← List.append_assoc]
          exact List.take_left
      · have hsl : Sl w (.slice (some ⟨g, o, none⟩) xs.length cap) xs := OwnO.sl (.inr ⟨g, o, cap, cur, rfl, hg, h2, h3, h4, h5⟩)
        have hr := run_grow_z w t t' t0 e inf z k1 kn (E.un ht) (E.un htn) hi hiz his hz ⟨g, o, none⟩ xs.length cap xs (by rw [his, Nat.mul_one]) (fun j c hj => hsl.cell hj) k hpos (by omega) hk8 (by omega) (by subst hib; exact growslice_fits (by omega) hl8)
        have hge := grownCap_ge w (xs.length + k) cap e
        refine ⟨_, _, hr, .inr ⟨w.heap.size, 0, grownCap w (xs.length + k) cap e, _, by simp, heap_alloc_new w.drew _, by simpa using hge, grownCap_le_maxLen w _ _ e (by unfold maxLen; omega), ?_, ?_⟩, hupd _ _, fun b hb => .inr (by cases hb; exact Nat.le_refl _)⟩
        · simp; omega
        · simp only [Array.toList_append, List.append_assoc, List.drop_zero]
          rw [← List.append_assoc]
          exact List.take_left
theorem apzo {k : Nat} (kk : ∀ v', TO E n X s ops rest ((d, v') :: fr) (own e v' (xs ++ List.replicate k z) :: A')) (hx : ev fr x = some v := by rfl) (hy : ev fr y = some (.int k1 (k : Int)) := by rfl) (hm : Tk (own e v xs) A A' := by (repeat (first | apply Tk.here | apply Tk.there)); first | done | fail) (hl : xs.length + k ≤ 17592186044416 := by omega)
    (ht : lk E.und t = some (.slice e) := by rfl) (htn : lk E.und t' = some (.int kn) := by rfl) (he : lk E.inf e = some (z, 1, by_) := by rfl) (hz : z.cells = #[z] := by rfl) (hz1 : z.oneCell' = true := by rfl) (hb : by_ ≤ 8 := by decide) (hd : Nat.blt d n.n = true := by rfl) :
    TO E n X s ops (⟨some d, .call ⟨.builtin .append, #[x, y], #[t, t']⟩, ty, pos, after, none⟩ :: rest) fr A := ⟨fun w hw => by
  have h2 := hw.im hm
  have h3 : OwnO w e v xs := h2.mem (List.Mem.head _)
  obtain ⟨v', w', hr, hO, hU, hW⟩ := run_appendZ (P := P) (k1 := k1) ty w ht htn he hz hz1 h3 hl hb
  refine SO_v hd (w' := w') (v := v') ⟨fun a ha' _ _ _ _ => ?_⟩ ((kk v').run w' (h2.set hU (fun b hb => .inl (by show v.ownBlock = some b; simpa using hb)) hO ?_ (fun _ h => h)))
  · simp only [execOp, resolve]
    simp [ha'.ev hx, ha'.ev hy, invoke, builtin, hr]
  · rintro b (hb' | hb' | hb')
    · exact hW b hb'
    · exact hb'.elim
    · exact hb'.elim⟩
end
end Go.Art
set_option linter.unusedSimpArgs false
set_option linter.unusedVariables false
namespace Go.Art
open Go Go.Proofs Go.RowKit
theorem dg_len_pos {n : Nat} (h : n ≠ 0) : 1 ≤ (dg n).length := by
  cases h1 : dg n with
  | nil => exact absurd (dg_nil.1 h1) h
  | cons => simp
theorem dg_mono {m n : Nat} (h : m ≤ n) : (dg m).length ≤ (dg n).length := (dg_len _ _).2 (Nat.lt_of_le_of_lt h ((dg_len n _).1 (Nat.le_refl _)))
theorem top_bounds {n : Nat} (h : n ≠ 0) : (dg n).getD ((dg n).length - 1) 0 * 18446744073709551616 ^ ((dg n).length - 1) ≤ n ∧ n < ((dg n).getD ((dg n).length - 1) 0 + 1) * 18446744073709551616 ^ ((dg n).length - 1) := by
  have h0 := dg_len_pos h
  have h1 := nv_cut (dg n) ((dg n).length - 1)
  rw [nv_step, show (dg n).length - 1 + 1 = (dg n).length by omega, List.drop_eq_nil_of_le (Nat.le_refl _), nv_dg] at h1
  simp only [nv, Nat.mul_zero, Nat.add_zero] at h1
  have h2 := nv_low (Dg_dg n) ((dg n).length - 1)
  rw [Nat.mul_comm] at h1
  rw [Nat.add_mul, Nat.one_mul]
  omega
theorem div_case {N p V s a b : Nat} (hV : V = b * 2 ^ s) (hU : p + N * V = a * 2 ^ s) (hp : p < V) : N = a / b ∧ p / 2 ^ s = a % b := by
  have hg : 0 < 2 ^ s := Nat.pow_pos (by decide)
  have hdu := div_up (a := a) (y := b) (p := 2 ^ s) hg
  rw [← hU, ← hV] at hdu
  have h1 : (p + N * V) / V = N := by rw [Nat.add_mul_div_right _ _ (by omega), Nat.div_eq_of_lt hp, Nat.zero_add]
  have h2 : (p + N * V) % V = p := by rw [Nat.add_mul_mod_self_right, Nat.mod_eq_of_lt hp]
  rw [h1, h2] at hdu
  exact ⟨hdu.1, by rw [hdu.2]; exact Nat.mul_div_cancel _ hg⟩
attribute [local irreducible] Fit pt own ro vw mpc lpt vels rels mow lrc dfr
abbrev DivR (na nb : Nat) (u : Value) (D : List Ch) : Prop := ∃ q r, u = tup3 q r (I 0) ∧ q.oneCell' = true ∧ r.oneCell' = true ∧ D = [own T64 q (Us (dg (na / nb))), own T64 r (Us (dg (na % nb)))]
theorem DivLt_tr (va vb : Value) (a b : List Nat) (ha : Dg a) (hb : Dg b) (hla : a.length ≤ 549755813888) (hlb : b.length ≤ 549755813888) (hlt : nv a < nv b) : Tr Tryz.prog 149 [va, vb] [vw va (Us a), vw vb (Us b)] [] (DivR (nv a) (nv b)) := by
  have hb0 : (dg (nv b)).length ≠ 0 := by have := dg_len_pos (n := nv b) (by omega); omega
  have hc : cmpN (nv (dg (nv a))) (nv (dg (nv b))) < 0 := by rw [nv_dg, nv_dg, cmpN_lt]; exact hlt
  have e1 : nv a / nv b = 0 := Nat.div_eq_of_lt hlt
  have e2 : nv a % nv b = nv a := Nat.mod_eq_of_lt hlt
  unfold DivR
  rw [e1, e2, dg_zero]
  refine Tr.enter env _ Tryz.func149 (by kernel_rfl) rfl Tryz.ntmps149 rfl (by repeat (first | exact has00 | refine has01 ?_)) fun w0 => ?_
  repeat' first|(refine gca ?_; first|(refine ca (Trim_tr va a ha (by omega)) ?_; rintro u1 _ ⟨hu1, rfl⟩)|(refine ca (Trim_tr vb b hb (by omega)) ?_; rintro u2 _ ⟨hu2, rfl⟩)|(refine ca (Cmp_tr u1 u2 _ _ (Dg_dg (nv a)) (Dg_dg (nv b))) ?_; rintro _ _ ⟨rfl, rfl⟩))|(refine wo ?_; first|(refine ao ?_; first|refine oa ?_)|refine oa ?_|refine lnm ?_)|(refine gc ?_; first|(refine ci (fun hB => ?_) (fun hB => ?_) <;> try (exfalso; omega)))|refine sq ?_|refine rg ?_|refine xc ?_|refine nl ?_|refine bk ?_|refine rt ?_
  refine TX.im (own_nil T64 _) ?_
  exact r3 ⟨_, _, rfl, rfl, hu1, rfl⟩
theorem DivOne_tr (va vb : Value) (a b : List Nat) (ha : Dg a) (hb : Dg b) (hla : a.length ≤ 549755813888) (hlb : b.length ≤ 549755813888) (hge : nv b ≤ nv a) (hb0 : nv b ≠ 0) (hb1 : nv b < 18446744073709551616) : Tr Tryz.prog 149 [va, vb] [vw va (Us a), vw vb (Us b)] [] (DivR (nv a) (nv b)) := by
  have hc : ¬ cmpN (nv (dg (nv a))) (nv (dg (nv b))) < 0 := by rw [nv_dg, nv_dg, cmpN_lt]; omega
  have e1 : dg (nv b) = [nv b] := dg_one hb1 hb0
  have e2 : (dg (nv b)).length = 1 := by rw [e1]; rfl
  have e3 : (dg (nv b)).getD 0 0 = nv b := by rw [e1]; rfl
  have hml : nv a % nv b < 18446744073709551616 := Nat.lt_trans (Nat.mod_lt _ (by omega)) hb1
  have hpl := dg_len_le ha
  have hP := fun u1 => Part_tr u1 (dg (nv a)) (nv b) (Dg_dg _) hb1 hb0 (by omega)
  unfold DivR
  simp only [nv_dg] at hP
  obtain ⟨rm, hrm⟩ : ∃ rm, rm = nv a % nv b := ⟨_, rfl⟩
  rw [← hrm] at hml ⊢
  simp only [← hrm] at hP
  refine Tr.enter env _ Tryz.func149 (by kernel_rfl) rfl Tryz.ntmps149 rfl (by repeat (first | exact has00 | refine has01 ?_)) fun w0 => ?_
  repeat' first|(refine gca ?_; first|(refine ca (Trim_tr va a ha (by omega)) ?_; rintro u1 _ ⟨hu1, rfl⟩)|(refine ca (Trim_tr vb b hb (by omega)) ?_; rintro u2 _ ⟨hu2, rfl⟩)|(refine ca (Cmp_tr u1 u2 _ _ (Dg_dg (nv a)) (Dg_dg (nv b))) ?_; rintro _ _ ⟨rfl, rfl⟩)|(refine ca (hP u1) ?_; rintro _ _ ⟨q, rfl, hq, rfl⟩)|(refine ca (Of_tr rm hml) ?_; rintro r _ ⟨hr, rfl⟩))|refine lue e3 ?_|(refine wo ?_; first|(refine ao ?_; first|refine oa ?_)|refine oa ?_|refine lnm ?_|refine ixm ?_)|(refine gc ?_; first|(refine ci (fun hB => ?_) (fun hB => ?_) <;> try (exfalso; omega)))|refine sq ?_|refine rg ?_|refine xc ?_|refine nl ?_|refine bk ?_|refine rt ?_
  exact r3 ⟨_, _, rfl, hq, hr, rfl⟩
set_option maxHeartbeats 1000000 in
theorem DivMain_tr (va vb : Value) (a b : List Nat) (ha : Dg a) (hb : Dg b) (hla : a.length ≤ 549755813888) (hlb : b.length ≤ 549755813888) (hge : nv b ≤ nv a) (hb1 : 18446744073709551616 ≤ nv b) : Tr Tryz.prog 149 [va, vb] [vw va (Us a), vw vb (Us b)] [] (DivR (nv a) (nv b)) := by
  have hc : ¬ cmpN (nv (dg (nv a))) (nv (dg (nv b))) < 0 := by rw [nv_dg, nv_dg, cmpN_lt]; omega
  have hb0 : nv b ≠ 0 := by omega
  have hal := dg_len_le ha
  have hbl := dg_len_le hb
  have hba := dg_mono hge
  obtain ⟨na, hna⟩ : ∃ na, na = nv a := ⟨_, rfl⟩
  obtain ⟨nb, hnb⟩ : ∃ nb, nb = nv b := ⟨_, rfl⟩
  have hTa := fun h => Trim_tr va a ha h
  have hTb := fun h => Trim_tr vb b hb h
  rw [← hna] at hge hal hba hTa hc ⊢
  rw [← hnb] at hge hb1 hb0 hbl hba hTb hc ⊢
  obtain ⟨x, hx⟩ : ∃ x, x = dg na := ⟨_, rfl⟩
  obtain ⟨y, hy⟩ : ∃ y, y = dg nb := ⟨_, rfl⟩
  have hxd : Dg x := by rw [hx]; exact Dg_dg _
  have hyd : Dg y := by rw [hy]; exact Dg_dg _
  have hy2 : 2 ≤ y.length := by
    rcases Nat.lt_or_ge y.length 2 with h | h
    · have := (dg_len nb 1).1 (by rw [← hy]; omega)
      omega
    · exact h
  have hty := Tm.top (Tm_dg nb) (by rw [← hy]; omega)
  have htb := top_bounds hb0
  have hnaL := (dg_len na x.length).1 (by rw [hx]; exact Nat.le_refl _)
  have hxl0 : 1 ≤ x.length := by rw [hx]; exact dg_len_pos (by omega)
  rw [← hx] at hal hba hTa hc
  rw [← hy] at hbl hba hTb hc hty htb
  have htd : y.getD (y.length - 1) 0 < 18446744073709551616 := hyd.getD _
  have hge2 : ((y.length : Int) - 1).toNat = y.length - 1 := by omega
  obtain ⟨top, htop⟩ : ∃ top, y.getD ((y.length : Int) - 1).toNat 0 = top := ⟨_, rfl⟩
  have htop2 := htop
  rw [hge2] at htop2
  rw [htop2] at hty htb htd
  obtain ⟨s, hs, hse, hV1, hV2⟩ := lz_ex top htd hty
  have hLZ := LZ64_tr top htd
  rw [hse] at hLZ
  have hg : 0 < 2 ^ s := Nat.pow_pos (by decide)
  -- the divisor and the dividend, moved
  obtain ⟨V, hV⟩ : ∃ V, V = nb * 2 ^ s := ⟨_, rfl⟩
  obtain ⟨U, hU⟩ : ∃ U, U = na * 2 ^ s := ⟨_, rfl⟩
  have hUpV := fun v1 => NUp_tr v1 nb s hs hb0 (by rw [← hy]; omega)
  have hUpU := fun v1 => NUp_tr v1 na s hs (by omega) (by rw [← hx]; omega)
  rw [← hV] at hUpV
  rw [← hU] at hUpU
  simp only [← hy] at hUpV
  simp only [← hx] at hUpU
  have hVlow : 9223372036854775808 * 18446744073709551616 ^ (y.length - 1) ≤ V := by
    rw [hV]
    refine Nat.le_trans (Nat.mul_le_mul_right _ hV1) ?_
    rw [Nat.mul_right_comm]
    exact Nat.mul_le_mul_right _ htb.1
  have hVhigh : V < 18446744073709551616 ^ y.length := by
    have h1 : (top + 1) * 2 ^ s ≤ 18446744073709551616 := by
      have hsp := pow_split (s := s) (by omega)
      rw [← hsp] at hV2 ⊢
      have := Nat.lt_of_mul_lt_mul_right hV2
      exact Nat.mul_le_mul_right _ this
    have h2 : nb * 2 ^ s < (top + 1) * 18446744073709551616 ^ (y.length - 1) * 2 ^ s := Nat.mul_lt_mul_of_pos_right htb.2 hg
    rw [hV]
    refine Nat.lt_of_lt_of_le h2 ?_
    rw [Nat.mul_right_comm]
    refine Nat.le_trans (Nat.mul_le_mul_right _ h1) ?_
    rw [Nat.mul_comm, ← Nat.pow_succ]
    exact Nat.pow_le_pow_right (by decide) (by omega)
  have hs63 : 2 ^ s ≤ 9223372036854775808 := Nat.pow_le_pow_right (n := 2) (by decide) (show s ≤ 63 from hs)
  obtain ⟨v, hv⟩ : ∃ v, v = dg V := ⟨_, rfl⟩
  have hvn : nv v = V := by rw [hv, nv_dg]
  have hvd : Dg v := by rw [hv]; exact Dg_dg _
  have hvl : v.length = y.length := by
    refine Nat.le_antisymm ?_ ?_
    · rw [hv]; exact (dg_len _ _).2 hVhigh
    · rcases Nat.lt_or_ge v.length y.length with h | h
      · have h1 := (dg_len V (y.length - 1)).1 (by rw [← hv]; omega)
        have h2 : 18446744073709551616 ^ (y.length - 1) ≤ 9223372036854775808 * 18446744073709551616 ^ (y.length - 1) := Nat.le_mul_of_pos_left _ (by decide)
        omega
      · exact h
  have hvt : v.getD (v.length - 1) 0 ≠ 0 := by rw [hv]; exact (Tm_dg V).top (by rw [← hv]; omega)
  have hUhigh : U < 18446744073709551616 ^ x.length * 9223372036854775808 := by
    rw [hU]; exact Nat.lt_of_lt_of_le (Nat.mul_lt_mul_of_pos_right hnaL hg) (Nat.mul_le_mul_left _ hs63)
  have hUl : (dg U).length ≤ x.length + 1 := (dg_len _ _).2 (by
    rw [Nat.pow_succ]; exact Nat.lt_of_lt_of_le hUhigh (Nat.mul_le_mul_left _ (by decide)))
  obtain ⟨k, hk⟩ : ∃ k : Nat, (x.length : Int) + 1 - ((dg U).length : Int) = k := ⟨x.length + 1 - (dg U).length, by omega⟩
  obtain ⟨p, hp⟩ : ∃ p : Nat, (x.length : Int) - (y.length : Int) + 1 = p := ⟨x.length - y.length + 1, by omega⟩
  have hpl : p + y.length = x.length + 1 := by omega
  obtain ⟨us, hus⟩ : ∃ us, us = dg U ++ List.replicate k 0 := ⟨_, rfl⟩
  have husn : nv us = U := by rw [hus, nv_app, nv_rep, nv_dg, Nat.mul_zero, Nat.add_zero]
  have husd : Dg us := by rw [hus]; exact (Dg_dg _).app (Dg.rep _)
  have husl : us.length = x.length + 1 := by rw [hus, List.length_append, List.length_replicate]; omega
  have husU : Us (dg U) ++ List.replicate k (Un 0) = Us us := by rw [Us_rep, ← Us_app, hus]
  have hstart : nv (us.drop p) < V := by
    have h1 := nv_cut us p
    rw [husn] at h1
    have h2 : 18446744073709551616 ^ x.length * 9223372036854775808 = 18446744073709551616 ^ p * (9223372036854775808 * 18446744073709551616 ^ (y.length - 1)) := by
      rw [show x.length = p + (y.length - 1) by omega, Nat.pow_add, Nat.mul_assoc, Nat.mul_comm 9223372036854775808]
    rw [h2] at hUhigh
    have h3 : 18446744073709551616 ^ p * nv (us.drop p) < 18446744073709551616 ^ p * (9223372036854775808 * 18446744073709551616 ^ (y.length - 1)) := by omega
    exact Nat.lt_of_lt_of_le (Nat.lt_of_mul_lt_mul_left h3) hVlow
  obtain ⟨qs, hqs⟩ : ∃ qs, qs = List.replicate p 0 := ⟨_, rfl⟩
  have hqsl : qs.length = p := by rw [hqs, List.length_replicate]
  have hqsd : Dg qs := by rw [hqs]; exact Dg.rep _
  rw [← hv] at hUpV
  have hcase := fun N q => div_case (N := N) (p := q) (V := V) (s := s) (a := na) (b := nb) hV
  rw [← hU] at hcase
  have hxle : x.length ≤ 549755813888 := by omega
  have pk : Unit → (nv us = U ∧ nv v = V ∧ v.getD (v.length - 1) 0 ≠ 0 ∧ V < 18446744073709551616 ^ y.length ∧ nv (us.drop p) < V) := fun _ => ⟨husn, hvn, hvt, hVhigh, hstart⟩
  clear hUhigh hVlow htb hV1 hV2 hnaL hV hU hx hy hs63 hv hna hnb htop2 hty husn hvn hvt hVhigh hstart hg hse hge hb1 hb0
  refine Tr.enter env _ Tryz.func149 (by kernel_rfl) rfl Tryz.ntmps149 rfl (by repeat (first | exact has00 | refine has01 ?_)) fun w0 => ?_
  repeat' first|(refine gca ?_; first|(refine ca (hTa (by omega)) ?_; rintro u1 _ ⟨hu1, rfl⟩)|(refine ca (hTb (by omega)) ?_; rintro u2 _ ⟨hu2, rfl⟩)|(refine ca (Cmp_tr u1 u2 x y hxd hyd) ?_; rintro _ _ ⟨rfl, rfl⟩)|(refine ca hLZ ?_; rintro _ _ ⟨rfl, rfl⟩)|(refine ca (hUpV u2) ?_; rintro _ _ ⟨vv, rfl, hvv, rfl⟩)|(refine ca (hUpU u1) ?_; rintro _ _ ⟨uu, rfl, huu, rfl⟩))|refine lue htop ?_|(refine aw ?_; rw [hk])|(refine aw ?_; rw [hp])|(refine apzo (k := k) (xs := Us (dg U)) (z := Un 0) (hl := by rw [Us_len]; omega) fun o => ?_; rw [husU])|(refine mku fun qv => ?_; rw [Int.toNat_natCast, ← hqs])|(refine wo ?_; first|(refine ao ?_; first|refine aw ?_|refine oa ?_)|refine oa ?_|refine lnm ?_|refine ixm ?_)|(refine gc ?_; first|(refine ci (fun hB => ?_) (fun hB => ?_) <;> try (exfalso; omega)))|refine sq ?_|refine rg ?_|refine xc ?_|refine nl ?_|refine sk ?_|refine bk ?_|refine xb ?_
  obtain ⟨husn, hvn, hvt, hVhigh, hstart⟩ := pk ()
  refine TC.loop (ι := Int × List Nat × List Nat) (fun i => [(16, I i.1)]) (fun i => [own T64 o (Us i.2.1), own T64 qv (Us i.2.2)])
    (fun i => i.2.1.length = x.length + 1 ∧ i.2.2.length = p ∧ Dg i.2.1 ∧ Dg i.2.2 ∧ -1 ≤ i.1 ∧ i.1 < p ∧ nv i.2.1 + 18446744073709551616 ^ (i.1 + 1).toNat * nv (i.2.2.drop (i.1 + 1).toNat) * V = U ∧ nv (i.2.1.drop (i.1 + 1).toNat) < V)
    (fun i => (i.1 + 1).toNat) ((qs.length : Int) - 1, us, qs) [10, 11, 13, 15] ⟨husl, hqsl, husd, hqsd, by dsimp only; omega, by dsimp only; omega, ?_, ?_⟩ ?_
  · dsimp only
    rw [show ((qs.length : Int) - 1 + 1).toNat = qs.length by omega, List.drop_eq_nil_of_le (Nat.le_refl _), husn]; simp [nv]
  · dsimp only
    rw [show ((qs.length : Int) - 1 + 1).toNat = p by omega]; exact hstart
  clear hstart hUpV hUpU hLZ hTa hTb hc husU hus husn husd husl hqs hqsl hqsd htop hk hp hge2 hUl hal hbl hxl0 pk hla hlb
  rintro ⟨ji, ys, ws⟩ ⟨h1, h2, h3, h4, h5, h6, hI, hR⟩
  dsimp only at h1 h2 h3 h4 h5 h6 hI hR ⊢
  by_cases hj : 0 ≤ ji
  · obtain ⟨j, rfl⟩ : ∃ j : Nat, ji = j := ⟨ji.toNat, by omega⟩
    rw [show ((j : Int) + 1).toNat = j + 1 by omega] at hI hR
    have hjl : j + v.length + 1 ≤ ys.length := by omega
    have hVb : V < 18446744073709551616 ^ v.length := by rw [hvl]; exact hVhigh
    have hz : nv (ys.drop (j + v.length + 1)) = 0 := by
      have h := nv_cut (ys.drop (j + 1)) v.length
      rw [List.drop_drop, show j + 1 + v.length = j + v.length + 1 by omega] at h
      rcases Nat.eq_zero_or_pos (nv (ys.drop (j + v.length + 1))) with h0 | h0
      · exact h0
      · have := Nat.mul_le_mul_left (18446744073709551616 ^ v.length) h0
        omega
    have hW := win_facts (ys := ys) (j := j) (n := v.length) hjl
    have hWd : nv (ys.drop j) = nv ((ys.take (j + v.length + 1)).drop j) := by
      have h := nv_cut (ys.drop j) (v.length + 1)
      rw [List.drop_drop, List.take_drop, show j + (v.length + 1) = j + v.length + 1 by omega, hz, Nat.mul_zero, Nat.add_zero] at h
      exact h
    have hys := nv_step ys j
    have hyj := h3.getD j
    have hwB : nv ((ys.take (j + v.length + 1)).drop j) < nv v * 18446744073709551616 := by
      rw [← hWd, hys, hvn]
      have := Nat.mul_le_mul_left 18446744073709551616 hR
      rw [Nat.mul_succ, Nat.mul_comm _ V] at this
      omega
    have hst := step_tr o vv ys v j h3 hvd (by omega) hvt hjl (by omega) hwB
    rw [hvn] at hst
    obtain ⟨w, hw⟩ : ∃ w, w = nv ((ys.take (j + v.length + 1)).drop j) := ⟨_, rfl⟩
    rw [← hw] at hst hW hWd
    have hV0 : 0 < V := by omega
    have hrl : (dg (w % V)).length ≤ v.length + 1 := Nat.le_trans ((dg_len _ _).2 (Nat.lt_trans (Nat.mod_lt _ hV0) hVb)) (by omega)
    obtain ⟨s1, s2, s3, s4⟩ := stepL_facts hrl hjl h3 (Dg_dg (w % V))
    rw [hz, Nat.mul_zero, Nat.add_zero, nv_dg] at s3 s4
    rw [hz, Nat.mul_zero, Nat.add_zero] at hW
    have hq := nv_set_drop ws j (w / V) (by omega)
    have hqb : w / V < 18446744073709551616 := by
      rw [Nat.div_lt_iff_lt_mul hV0, Nat.mul_comm, ← hvn, hw]; exact hwB
    have hmV : w % V < V := Nat.mod_lt _ hV0
    have hfin : nv (stepL ys j v.length (dg (w % V))) + 18446744073709551616 ^ j * nv ((ws.set j (w / V)).drop j) * V = U := by
      have h := Nat.div_add_mod w V
      rw [s3, hq, ← hI, hW, Nat.pow_succ]
      rw [Nat.mul_add, Nat.add_mul, show 18446744073709551616 ^ j * (18446744073709551616 * nv (ws.drop (j + 1))) * V = 18446744073709551616 ^ j * 18446744073709551616 * nv (ws.drop (j + 1)) * V by ac_rfl]
      have h' := congrArg (18446744073709551616 ^ j * ·) h
      simp only [Nat.mul_add] at h'
      rw [show 18446744073709551616 ^ j * (w / V) * V = 18446744073709551616 ^ j * (V * (w / V)) by ac_rfl]
      omega
    obtain ⟨qd, hqd⟩ : ∃ qd, qd = w / V := ⟨_, rfl⟩
    obtain ⟨zs, hzs⟩ : ∃ zs, zs = stepL ys j v.length (dg (w % V)) := ⟨_, rfl⟩
    rw [← hqd] at hst hfin hqb
    rw [← hzs] at hst hfin s1 s2 s4
    have pk2 : Unit → (nv zs + 18446744073709551616 ^ j * nv ((ws.set j qd).drop j) * V = U ∧ nv (zs.drop j) < V) := fun _ => ⟨hfin, by rw [s4]; exact hmV⟩
    clear hqd hzs hq s3 hrl hw hW hWd hys hwB hz hI hR hVb hvt hfin s4 hmV hVhigh hvn hV0 hyj
    repeat' first|(refine gca ?_; first|(refine ca hst ?_; rintro _ _ ⟨rfl, rfl⟩))|refine sou ?_|(refine aw ?_; rw [show (j : Int) + (v.length : Int) + 1 = ((j + v.length + 1 : Nat) : Int) by omega])|(refine wo ?_; first|(refine ao ?_; first|refine aw ?_|refine oa ?_)|refine oa ?_|refine lnm ?_|refine ixmn ?_|refine scm ?_)|(refine gc ?_; first|refine ct ?_)|refine sq ?_|refine rg ?_|refine xc ?_|refine nl ?_|refine sk ?_|refine bk ?_|refine xb ?_
    exact lp ((j : Int) - 1, zs, ws.set j qd) ⟨by dsimp only; omega, by dsimp only; rw [List.length_set]; exact h2, s2, h4.set hqb, by dsimp only; omega, by dsimp only; omega, by dsimp only; rw [show ((j : Int) - 1 + 1).toNat = j by omega]; exact (pk2 ()).1, by dsimp only; rw [show ((j : Int) - 1 + 1).toNat = j by omega]; exact (pk2 ()).2⟩
  · obtain rfl : ji = -1 := by omega
    rw [show ((-1 : Int) + 1).toNat = 0 from rfl, List.drop_zero, Nat.pow_zero, Nat.one_mul] at hI
    rw [show ((-1 : Int) + 1).toNat = 0 from rfl, List.drop_zero] at hR
    obtain ⟨c1, c2⟩ := hcase _ _ hI hR
    unfold DivR
    rw [← c1, ← c2]
    have hyl := dg_len_le h3
    have hDn := fun v1 => NDown_tr v1 (dg (nv ys)) s hs (Dg_dg _) (by omega)
    simp only [nv_dg] at hDn
    repeat' first|(refine gca ?_; first|(refine ca (Trim_tr o ys h3 (by omega)) ?_; rintro o2 _ ⟨ho2, rfl⟩)|(refine ca (Trim_tr qv ws h4 (by omega)) ?_; rintro q2 _ ⟨hq2, rfl⟩)|(refine ca (hDn o2) ?_; rintro _ _ ⟨lf, rfl, hlf, rfl⟩))|(refine wo ?_; first|(refine ao ?_; first|refine oa ?_)|refine oa ?_)|(refine gc ?_; first|refine cf ?_)|refine sq ?_|refine rg ?_|refine xc ?_|refine nl ?_|refine xe ?_|refine rt ?_
    exact r3 ⟨q2, lf, rfl, hq2, hlf, rfl⟩
end Go.Art
set_option linter.unusedSimpArgs false
set_option linter.unusedVariables false
namespace Go.Art
open Go Go.Proofs Go.RowKit
attribute [local irreducible] Fit pt own ro vw mpc lpt vels rels mow lrc dfr
theorem NDiv_tr (va vb : Value) (a b : List Nat) (ha : Dg a) (hb : Dg b) (hla : a.length ≤ 549755813888) (hlb : b.length ≤ 549755813888) (hb0 : nv b ≠ 0) : Tr Tryz.prog 149 [va, vb] [vw va (Us a), vw vb (Us b)] [] (DivR (nv a) (nv b)) := by
  rcases Nat.lt_or_ge (nv a) (nv b) with h | h
  · exact DivLt_tr va vb a b ha hb hla hlb h
  · rcases Nat.lt_or_ge (nv b) 18446744073709551616 with h1 | h1
    · exact DivOne_tr va vb a b ha hb hla hlb h hb0 h1
    · exact DivMain_tr va vb a b ha hb hla hlb h h1
theorem NGcd_tr (va vb : Value) (a b : List Nat) (ha : Dg a) (hb : Dg b) (hla : a.length ≤ 549755813888) (hlb : b.length ≤ 549755813888) : Tr Tryz.prog 125 [va, vb] [vw va (Us a), vw vb (Us b)] [] fun u D => u.oneCell' = true ∧ D = [own T64 u (Us (dg (Nat.gcd (nv a) (nv b))))] := by
  have h1 := dg_len_le ha
  have h2 := dg_len_le hb
  obtain ⟨na, hna⟩ : ∃ na, na = nv a := ⟨_, rfl⟩
  obtain ⟨nb, hnb⟩ : ∃ nb, nb = nv b := ⟨_, rfl⟩
  have hTa := Trim_tr va a ha (by omega)
  have hTb := Trim_tr vb b hb (by omega)
  rw [← hna] at h1 hTa ⊢
  rw [← hnb] at h2 hTb ⊢
  clear hna hnb
  refine Tr.enter env _ Tryz.func125 (by kernel_rfl) rfl Tryz.ntmps125 rfl (by repeat (first | exact has00 | refine has01 ?_)) fun w0 => ?_
  repeat' first|(refine gca ?_; first|(refine ca hTa ?_; rintro u1 _ ⟨hu1, rfl⟩)|(refine ca hTb ?_; rintro u2 _ ⟨hu2, rfl⟩))|(refine wo ?_; first|refine oa ?_)|refine sq ?_|refine rg ?_|refine xc ?_|refine nl ?_|refine bk ?_
  refine TC.loop (ι := Nat × Nat × Value × Value) (fun k => [(0, k.2.2.1), (1, k.2.2.2)]) (fun k => [own T64 k.2.2.1 (Us (dg k.1)), own T64 k.2.2.2 (Us (dg k.2.1))]) (fun k => (dg k.1).length ≤ 549755813888 ∧ (dg k.2.1).length ≤ 549755813888 ∧ Nat.gcd k.1 k.2.1 = Nat.gcd na nb ∧ k.2.2.1.oneCell' = true ∧ k.2.2.2.oneCell' = true) (fun k => k.2.1) (na, nb, u1, u2) [] ⟨by dsimp only; omega, by dsimp only; omega, rfl, hu1, hu2⟩ ?_
  rintro ⟨p, q, v1, v2⟩ ⟨g1, g2, g3, g4, g5⟩
  dsimp only at g1 g2 g3 g4 g5 ⊢
  by_cases hq : q = 0
  · subst hq
    have hl : (dg 0).length = 0 := by rw [dg_zero]; rfl
    rw [Nat.gcd_zero_right] at g3
    rw [← g3]
    repeat' first|(refine wo ?_; first|(refine ao ?_; first|refine oa ?_)|refine oa ?_|refine lnm ?_)|(refine gc ?_; first|(refine ci (fun hB => ?_) (fun hB => ?_) <;> try (exfalso; omega)))|refine sq ?_|refine rg ?_|refine xc ?_|refine nl ?_|refine xe ?_|refine rt ?_
    exact r1 ⟨g4, rfl⟩
  · have hl := dg_len_pos hq
    have hD := NDiv_tr v1 v2 (dg p) (dg q) (Dg_dg p) (Dg_dg q) g1 g2 (by rw [nv_dg]; exact hq)
    rw [nv_dg, nv_dg] at hD
    have hm : p % q < q := Nat.mod_lt _ (by omega)
    have hml := Nat.le_trans (dg_mono (Nat.le_of_lt hm)) g2
    have hg : Nat.gcd q (p % q) = Nat.gcd na nb := by rw [← g3, Nat.gcd_comm p q, Nat.gcd_rec q p, Nat.gcd_comm]
    obtain ⟨r, hr⟩ : ∃ r, r = p % q := ⟨_, rfl⟩
    unfold DivR at hD
    rw [← hr] at hm hml hg hD
    repeat' first|(refine gca ?_; first|(refine ca hD ?_; rintro _ _ ⟨qv, rv, rfl, hqv, hrv, rfl⟩))|(refine wo ?_; first|(refine ao ?_; first|refine oa ?_)|refine oa ?_|refine lnm ?_)|(refine gc ?_; first|(refine ci (fun hB => ?_) (fun hB => ?_) <;> try (exfalso; omega)))|refine sq ?_|refine rg ?_|refine xc ?_|refine nl ?_|refine sk ?_|refine bk ?_|refine xb ?_
    exact lp (q, r, v2, rv) ⟨g2, hml, hg, g5, hrv⟩
end Go.Art
set_option linter.unusedSimpArgs false
set_option linter.unusedVariables false
namespace Go.Art
open Go Go.Proofs Go.RowKit

def setPartsF (pf : Nat → Option (Nat × Nat)) : List Value → List (Nat × Value) → Option (List Value)
  | cs, [] => some cs
  | cs, (i, v) :: r => match pf i with
    | some (off, sz) => bif Nat.beq v.cells.size sz && Nat.ble (off + sz) cs.length then setPartsF pf (cs.take off ++ v.cells.toList ++ cs.drop (off + sz)) r else none
    | none => none
theorem fill_partsF {pf : Nat → Option (Nat × Nat)} : ∀ {vs : List (Nat × Value)} {cs cs' : List Value}, setPartsF pf cs vs = some cs' → Instr.fill pf cs.toArray vs = some cs'.toArray
  | [], cs, cs', h => by simp [setPartsF] at h; simp [Instr.fill, h]
  | (i, v) :: r, cs, cs', h => by
    simp only [setPartsF] at h
    cases hp : pf i with
    | none => rw [hp] at h; cases h
    | some q =>
      obtain ⟨off, sz⟩ := q
      rw [hp] at h
      simp only at h
      by_cases hc : (Nat.beq v.cells.size sz && Nat.ble (off + sz) cs.length) = true
      · rw [hc, cond_true] at h
        simp only [Bool.and_eq_true] at hc
        have h1 := Nat.eq_of_beq_eq_true hc.1
        have h2 := Nat.le_of_ble_eq_true hc.2
        simp only [Instr.fill, hp]
        have hx1 : ¬ ((decide (v.cells.size ≠ sz) || decide (off + v.cells.size > cs.toArray.size)) = true) := by simp [h1]; omega
        rw [if_neg hx1]
        have hf : (v.cells.zipIdx.foldl (fun cs (x : Value × Nat) => cs.setIfInBounds (off + x.2) x.1) cs.toArray) = (cs.take off ++ v.cells.toList ++ cs.drop (off + sz)).toArray := by
          have := foldl_set v.cells.toList off 0 cs.toArray (by simp; omega)
          simp only [Nat.add_zero] at this
          rw [← Array.foldl_toList, Array.toList_zipIdx, this]
          simp [h1]
        show Instr.fill _ (v.cells.zipIdx.foldl (fun cs (x : Value × Nat) => cs.setIfInBounds (off + x.2) x.1) cs.toArray) r = _
        rw [hf]
        exact fill_partsF h
      · have : (Nat.beq v.cells.size sz && Nat.ble (off + sz) cs.length) = false := by simpa only [Bool.not_eq_true] using hc
        rw [this, cond_false] at h; cases h
section
variable {P : Program} {E : Env P} {n : Sh} {X : Cx} {s : List K} {fr : Fr} {A A' : List Ch} {ops : Array Oper} {rest : List Oper} {d m sz sz1 by_ by1 : Nat} {ty t t' el : TypeId} {pos : String} {after : Array Edge} {x y : Operand} {w : World} {cs zs vs : List Value} {v z : Value} {parts : List (Nat × Operand)} {ps : List (Nat × Value)} {dt : TypeDesc} {i : Int} {k1 : IntKind}
theorem R_buildArr (ht : lk E.und t = some (.array m el)) (he : lk E.inf t = some (.agg zs.toArray, sz, by_)) (h1 : lk E.inf el = some (z, sz1, by1)) (hv : evps fr parts = some ps) (hs : setPartsF (fun i => some (i * sz1, sz1)) zs ps = some cs) : OpV P n fr (.build t parts.toArray) ty w (.agg cs.toArray) w := ⟨fun a ha _ _ _ _ => by
  obtain ⟨inf, hi, hz, _, _⟩ := E.info he
  obtain ⟨inf1, hi1, _, hz1, _⟩ := E.info h1
  have h2 := ha.evps hv
  have h3 := fill_partsF hs
  have hb : (Instr.build t (ps.toArray)).run P w = .ok (.agg cs.toArray) w := by
    unfold Instr.build
    simp [zeroValue, typeInfo, run_underlying (P := P) (E.un ht), hi, hz, Value.cells, sizeOf, hi1, hz1, h3]
  simp only [execOp]
  show Sem.run P (do let v ← Instr.build t ((parts.toArray.map fun (p : Nat × Operand) => (p.1, a.eval p.2))); pure (Next.value v)) w = _
  rw [List.map_toArray, h2]
  simp [hb]⟩
theorem R_index1 (ht : lk E.und t = some (.array m el)) (hdt : lk E.und el = some dt) (hg : aggB dt = false) (h1 : lk E.inf el = some (z, 1, by1)) (hx : ev fr x = some (.agg cs.toArray)) (hy : ev fr y = some (.int k1 i)) (hi : 0 ≤ i ∧ i < m) (hv : cs[i.toNat]? = some v) :
    OpV P n fr (.index t x y) ty w v w := ⟨fun a ha _ _ _ _ => by
  obtain ⟨inf1, hi1, _, hz1, _⟩ := E.info h1
  simp only [execOp, ha.ev hx, ha.ev hy]
  simp [Instr.index, asIntOf, run_underlying (P := P) (E.un ht), hi, part, aggB_run (w := w) hdt hg, sizeOf, typeInfo, hi1, hz1, hv]⟩
end
section
variable {P : Program} {E : Env P} {n : Sh} {X : Cx} {s : List K} {fr : Fr} {A : List Ch} {ops : Array Oper} {rest : List Oper} {d : Nat} {ty : TypeId} {pos : String} {after : Array Edge} {v : Value} {f : FuncId} {g : Operand} {cap : Array Value} {args : List Operand} {ats : Array TypeId} {vs : List Value} {pre : List Ch} {R : Value → List Ch → Prop}
end
end Go.Art
set_option linter.unusedSimpArgs false
set_option linter.unusedVariables false
namespace Go.Art
open Go Go.Proofs Go.RowKit
abbrev TIt : TypeId := 33
abbrev IR (z : Int) (u : Value) (D : List Ch) : Prop := ∃ o, u = .agg #[.bool (decide (z < 0)), o] ∧ o.oneCell' = true ∧ D = [own T64 o (Us (dg z.natAbs))]
def sg (b : Bool) (n : Nat) : Int := if b then -(n : Int) else n
theorem sg_abs (b : Bool) (n : Nat) : (sg b n).natAbs = n := by unfold sg; split <;> omega
theorem sg_neg (b : Bool) (n : Nat) : decide (sg b n < 0) = (b && decide (0 < n)) := by
  unfold sg
  cases b
  · simp
  · simp
attribute [local irreducible] Fit pt own ro vw mpc lpt vels rels mow lrc dfr
theorem IMake_tr (b : Bool) (v : Value) (l : List Nat) (hd : Dg l) (hl : l.length ≤ 1099511627776) : Tr Tryz.prog 52 [.bool b, v] [vw v (Us l)] [] (IR (sg b (nv l))) := by
  have hlp : 0 < (dg (nv l)).length ↔ 0 < nv l := ⟨fun h => Nat.pos_of_ne_zero fun e => by rw [e, dg_zero] at h; simp at h, fun h => dg_len_pos (by omega)⟩
  have hll := dg_len_le hd
  unfold IR
  rw [sg_abs, sg_neg]
  refine Tr.enter env _ Tryz.func52 (by kernel_rfl) rfl Tryz.ntmps52 rfl (by repeat (first | exact has00 | refine has01 ?_)) fun w0 => ?_
  repeat' first|(refine gca ?_; first|(refine ca (Trim_tr v l hd (by omega)) ?_; rintro o _ ⟨ho, rfl⟩))|refine al fun c => ?_|refine bdz ?_|refine srz ?_|refine lda ?_|(refine wo ?_; first|(refine ao ?_; first|refine oa ?_)|refine oa ?_|refine ld ?_|refine lnm ?_|refine sr ?_|refine gy ?_|refine gn ?_|(refine gs (fun hB => ?_) (fun hB => ?_) <;> try (exfalso; omega)))|refine sq ?_|refine rg ?_|refine xc ?_|refine nl ?_|refine rt ?_
  · rename_i b0; subst hB
    exact rca1 (b := b0) (cs := [.bool (decide (0 < ((dg (nv l)).length : Int))), o]) (vs := [.bool (decide (0 < ((dg (nv l)).length : Int))), o]) (T := TIt) ⟨o, by simp [hlp], ho, rfl⟩
  · rename_i b0; subst hB
    exact rca1 (b := b0) (cs := [.bool false, o]) (vs := [.bool false, o]) (T := TIt) ⟨o, rfl, ho, rfl⟩
end Go.Art
set_option linter.unusedSimpArgs false
set_option linter.unusedVariables false
namespace Go.Art
open Go Go.Proofs Go.RowKit
abbrev iv (z : Int) (o : Value) : Value := .agg #[.bool (decide (z < 0)), o]
abbrev dz (z : Int) : List Nat := dg z.natAbs
theorem ifc {α : Type} {p q : Prop} [Decidable p] [Decidable q] (h : p ↔ q) (a b : α) : (if p then a else b) = if q then a else b := by
  by_cases hp : p
  · rw [if_pos hp, if_pos (h.1 hp)]
  · rw [if_neg hp, if_neg fun hq => hp (h.2 hq)]
theorem dg_len1 {n : Nat} (h : n < 18446744073709551616) : (dg n).length ≤ 1 := (dg_len n 1).2 (by simpa using h)
attribute [local irreducible] Fit pt own ro vw mpc lpt vels rels mow lrc dfr
theorem IOf_tr (x : Nat) (hx : x < 9223372036854775808) : Tr Tryz.prog 81 [I x] [] [] (IR (x : Int)) := by
  have h1 := dg_len1 (n := x) (by omega)
  have hM := fun o => IMake_tr false o (dg x) (Dg_dg x) (by omega)
  have hs : sg false x = (x : Int) := rfl
  simp only [nv_dg, hs] at hM
  unfold IR at hM ⊢
  refine Tr.enter env _ Tryz.func81 (by kernel_rfl) rfl Tryz.ntmps81 rfl (by repeat (first | exact has00 | refine has01 ?_)) fun w0 => ?_
  repeat' first|(refine gca ?_; first|(refine ca (Of_tr x (by omega)) ?_; rintro o _ ⟨ho, rfl⟩)|(refine ca (hM o) ?_; rintro _ _ ⟨o2, rfl, ho2, rfl⟩))|refine al fun c => ?_|refine srz ?_|(refine wo ?_; first|(refine ao ?_; first|refine oa ?_)|refine ntu ?_|refine oa ?_)|(refine gc ?_; first|refine cf ?_)|refine sq ?_|refine rg ?_|refine xc ?_|refine nl ?_|refine sk ?_|refine rt ?_
  exact rca1 (cs := [.bool (decide ((x : Int) < 0)), o2]) (vs := [.bool (decide ((x : Int) < 0)), o2]) (T := TIt) ⟨o2, rfl, ho2, rfl⟩
theorem ICheck_tr (b : Bool) (o : Value) (l : List Nat) : Tr Tryz.prog 87 [.agg #[.bool b, o]] [vw o (Us l)] [] fun u D => u = I (if (b = true ∧ l.length = 0) ∨ (0 < l.length ∧ l.getD (l.length - 1) 0 = 0) then 6 else 0) ∧ D = [] := by
  have hC := Check_tr o l
  obtain ⟨c, hc⟩ : ∃ c : Int, c = (if 0 < l.length ∧ l.getD (l.length - 1) 0 = 0 then 6 else 0) := ⟨_, rfl⟩
  rw [← hc] at hC
  refine Tr.enter env _ Tryz.func87 (by kernel_rfl) rfl Tryz.ntmps87 rfl (by repeat (first | exact has00 | refine has01 ?_)) fun w0 => ?_
  repeat' first|(refine gca ?_; first|(refine ca hC ?_; rintro _ _ ⟨rfl, rfl⟩))|refine bx fun q => ?_|refine lda ?_|(refine wo ?_; first|(refine ao ?_; first|refine oa ?_)|refine oa ?_|refine ld ?_|refine lnm ?_|refine gy ?_|refine gn ?_|(refine gs (fun hB => ?_) (fun hB => ?_) <;> try (exfalso; omega)))|(refine gc ?_; first|refine cf ?_|(refine ci (fun hB => ?_) (fun hB => ?_) <;> try (exfalso; omega)))|refine sq ?_|refine rg ?_|refine xc ?_|refine nl ?_|refine sk ?_|refine rt ?_
  · exact r1 ⟨by rw [if_pos (.inl ⟨by assumption, by omega⟩)], rfl⟩
  · exact r1 ⟨(congrArg I hc).trans (congrArg I (ifc ⟨.inr, fun h => h.resolve_left fun k => by omega⟩ _ _)), rfl⟩
  · exact r1 ⟨(congrArg I hc).trans (congrArg I (ifc ⟨.inr, fun h => h.resolve_left fun k => by rw [hB] at k; cases k.1⟩ _ _)), rfl⟩
theorem by_tr (va vb : Value) (a b : List Nat) (ha : Dg a) (hb : Dg b) (hla : a.length ≤ 549755813888) (hlb : b.length ≤ 549755813888) (hb0 : nv b ≠ 0) : Tr Tryz.prog 126 [va, vb] [vw va (Us a), vw vb (Us b)] [] fun u D => u.oneCell' = true ∧ D = [own T64 u (Us (dg (nv a / nv b)))] := by
  have hD := NDiv_tr va vb a b ha hb hla hlb hb0
  obtain ⟨m, hm⟩ : ∃ m, m = nv a / nv b := ⟨_, rfl⟩
  unfold DivR at hD
  simp only [← hm] at hD
  rw [← hm]
  refine Tr.enter env _ Tryz.func126 (by kernel_rfl) rfl Tryz.ntmps126 rfl (by repeat (first | exact has00 | refine has01 ?_)) fun w0 => ?_
  repeat' first|(refine gca ?_; first|(refine ca hD ?_; rintro _ _ ⟨qv, rv, rfl, hqv, hrv, rfl⟩))|(refine wo ?_; first|refine oa ?_)|refine sq ?_|refine rg ?_|refine xc ?_|refine nl ?_|refine rt ?_
  exact r1 ⟨hqv, rfl⟩
end Go.Art
set_option linter.unusedSimpArgs false
set_option linter.unusedVariables false
namespace Go.Art
open Go Go.Proofs Go.RowKit
abbrev TRt : TypeId := 35
abbrev rv (q : Rat) (vn vd : Value) : Value := .agg #[.bool (decide (q.num < 0)), vn, vd]
abbrev FQ (q : Rat) (u : Value) (D : List Ch) : Prop := ∃ vn vd, u = rv q vn vd ∧ vn.oneCell' = true ∧ vd.oneCell' = true ∧ D = [own T64 vn (Us (dg q.num.natAbs)), own T64 vd (Us (dg q.den))]
abbrev rv0 : Value := .agg #[.bool false, nS, nS]
theorem mk_num (z : Int) {m : Nat} (hm : m ≠ 0) : (mkRat z m).num = z / (Nat.gcd z.natAbs m : Nat) := by
  rw [Rat.mkRat_def, dif_neg hm, Rat.normalize_eq]
theorem mk_den (z : Int) {m : Nat} (hm : m ≠ 0) : (mkRat z m).den = m / Nat.gcd z.natAbs m := by
  rw [Rat.mkRat_def, dif_neg hm, Rat.normalize_eq]
theorem natAbs_div (z : Int) (g : Nat) (h : (g : Int) ∣ z) : (z / (g : Int)).natAbs = z.natAbs / g := by
  obtain ⟨c, rfl⟩ := h
  by_cases hg : g = 0
  · subst hg; simp
  · rw [Int.mul_ediv_cancel_left _ (by omega), Int.natAbs_mul, Int.natAbs_natCast, Nat.mul_div_cancel_left _ (by omega)]
theorem mk_abs (z : Int) {m : Nat} (hm : m ≠ 0) : (mkRat z m).num.natAbs = z.natAbs / Nat.gcd z.natAbs m := by
  rw [mk_num z hm, natAbs_div]
  exact Int.ofNat_dvd_left.2 (Nat.gcd_dvd_left _ _)
theorem mk_neg (z : Int) {m : Nat} (hm : m ≠ 0) : (mkRat z m).num < 0 ↔ z < 0 := by
  have hg : 0 < Nat.gcd z.natAbs m := Nat.gcd_pos_of_pos_right _ (by omega)
  rw [mk_num z hm]
  constructor
  · intro h
    rcases Int.lt_or_le z 0 with h1 | h1
    · exact h1
    · have := Int.ediv_nonneg h1 (Int.natCast_nonneg (Nat.gcd z.natAbs m)); omega
  · intro h; exact Int.ediv_neg_of_neg_of_pos h (by omega)
theorem sg_mk (b : Bool) (n : Nat) {m : Nat} (hm : m ≠ 0) : decide ((mkRat (sg b n) m).num < 0) = (b && decide (0 < n / Nat.gcd n m)) := by
  have hg : 0 < Nat.gcd n m := Nat.gcd_pos_of_pos_right _ (by omega)
  rw [decide_eq_decide.2 (mk_neg _ hm), sg_neg]
  congr 1
  refine decide_eq_decide.2 ⟨fun h => Nat.div_pos (Nat.le_of_dvd h (Nat.gcd_dvd_left _ _)) hg, fun h => ?_⟩
  rcases Nat.eq_zero_or_pos n with h0 | h0
  · subst h0; simp at h
  · exact h0
theorem dg_le {l : List Nat} (hd : Dg l) {n : Nat} (h : n ≤ nv l) : (dg n).length ≤ l.length := Nat.le_trans (dg_mono h) (dg_len_le hd)
attribute [local irreducible] Fit pt own ro vw mpc lpt vels rels mow lrc dfr
theorem lowest_tr (b : Bool) (o dv : Value) (l m : List Nat) (hl : Dg l) (hm : Dg m) (hll : l.length ≤ 68719476736) (hlm : m.length ≤ 68719476736) (hm0 : nv m ≠ 0) :
    Tr Tryz.prog 89 [.agg #[.bool b, o], dv] [vw o (Us l), vw dv (Us m)] [] (FQ (mkRat (sg b (nv l)) (nv m))) := by
  have e1 := mk_abs (sg b (nv l)) hm0
  have e2 := mk_den (sg b (nv l)) hm0
  have e3 := sg_mk b (nv l) hm0
  rw [sg_abs] at e1 e2
  have hg0 : Nat.gcd (nv l) (nv m) ≠ 0 := Nat.ne_of_gt (Nat.gcd_pos_of_pos_right _ (by omega))
  have hgl : (dg (Nat.gcd (nv l) (nv m))).length ≤ m.length := dg_le hm (Nat.gcd_le_right _ (by omega))
  have hB1 := fun g => by_tr o g l (dg (Nat.gcd (nv l) (nv m))) hl (Dg_dg _) (by omega) (by omega) (by rw [nv_dg]; exact hg0)
  have hB2 := fun g => by_tr dv g m (dg (Nat.gcd (nv l) (nv m))) hm (Dg_dg _) (by omega) (by omega) (by rw [nv_dg]; exact hg0)
  have hG := NGcd_tr o dv l m hl hm (by omega) (by omega)
  have hql : (dg (nv l / Nat.gcd (nv l) (nv m))).length ≤ l.length := dg_le hl (Nat.div_le_self _ _)
  have hM := fun u => IMake_tr b u (dg (nv l / Nat.gcd (nv l) (nv m))) (Dg_dg _) (by omega)
  simp only [nv_dg] at hB1 hB2 hM
  unfold IR at hM
  simp only [sg_abs, sg_neg] at hM
  simp only [← e3] at hM
  rw [← e2] at hB2
  rw [← e1] at hB1 hM
  obtain ⟨q, hq⟩ : ∃ q, q = mkRat (sg b (nv l)) (nv m) := ⟨_, rfl⟩
  obtain ⟨g, hgg⟩ : ∃ g, g = Nat.gcd (nv l) (nv m) := ⟨_, rfl⟩
  rw [← hq] at hB1 hB2 hM ⊢
  rw [← hgg] at hB1 hB2 hG
  clear e1 e2 e3 hg0 hgl hql hq hgg
  refine Tr.enter env _ Tryz.func89 (by kernel_rfl) rfl Tryz.ntmps89 rfl (by repeat (first | exact has00 | refine has01 ?_)) fun w0 => ?_
  repeat' first|(refine gca ?_; first|(refine ca hG ?_; rintro gv _ ⟨hgv, rfl⟩))|refine bx fun q1 => ?_|refine al fun c => ?_|(refine wo ?_; first|refine oa ?_|refine ld ?_)|refine sq ?_|refine rg ?_|refine xc ?_|refine nl ?_
  refine rs (fun w => w.heap[q1]? = some (.cells [.bool b, o].toArray TIt (0, 0))) ?_ (fun w hw => pt_at (b := q1) (cs := [.bool b, o]) (T := TIt) (by (repeat (first | apply List.Mem.head | apply List.Mem.tail)); first | done | fail) hw)
  refine tka 0 ?_
  refine tkl 1 (cs := [.bool b, o]) (fun w h => h) ?_
  refine tka 2 ?_
  refine tkl 3 (cs := [.bool b, o]) (fun w h => h) ?_
  refine tka 4 ?_
  refine tka 7 ?_
  refine tka 8 ?_
  refine t1 5 ?_
  refine ca (hB1 gv) ?_
  rintro u1 _ ⟨hu1, rfl⟩
  refine nl ?_
  refine te (fun w hw => pt_at (b := q1) (cs := [.bool b, o]) (T := TIt) (by (repeat (first | apply List.Mem.head | apply List.Mem.tail)); first | done | fail) hw) ?_
  refine t1 6 ?_
  refine ca (hM u1) ?_
  rintro _ _ ⟨u2, rfl, hu2, rfl⟩
  refine nl ?_
  refine te (fun w hw => pt_at (b := q1) (cs := [.bool b, o]) (T := TIt) (by (repeat (first | apply List.Mem.head | apply List.Mem.tail)); first | done | fail) hw) ?_
  refine t1 9 ?_
  refine ca (hB2 gv) ?_
  rintro u3 _ ⟨hu3, rfl⟩
  refine nl ?_
  refine te (fun w hw => pt_at (b := q1) (cs := [.bool b, o]) (T := TIt) (by (repeat (first | apply List.Mem.head | apply List.Mem.tail)); first | done | fail) hw) ?_
  refine t1 10 ?_
  refine bdm ?_
  refine nl ?_
  refine te (fun w hw => pt_at (b := q1) (cs := [.bool b, o]) (T := TIt) (by (repeat (first | apply List.Mem.head | apply List.Mem.tail)); first | done | fail) hw) ?_
  refine t1 11 ?_
  refine srz ?_
  refine nl ?_
  refine te (fun w hw => pt_at (b := q1) (cs := [.bool b, o]) (T := TIt) (by (repeat (first | apply List.Mem.head | apply List.Mem.tail)); first | done | fail) hw) ?_
  refine t0 ?_
  repeat' first|refine xc ?_|refine rt ?_
  exact rca1 (cs := [.bool (decide (q.num < 0)), u2, u3]) (vs := [.bool (decide (q.num < 0)), u2, u3]) (T := TRt) ⟨u2, u3, rfl, hu2, hu3, rfl⟩
end Go.Art
set_option linter.unusedSimpArgs false
set_option linter.unusedVariables false
namespace Go.Art
open Go Go.Proofs Go.RowKit
abbrev FQ2 (q : Rat) (e : Int) (u : Value) (D : List Ch) : Prop := ∃ vn vd, u = tup2 (rv q vn vd) (I e) ∧ vn.oneCell' = true ∧ vd.oneCell' = true ∧ D = [own T64 vn (Us (dg q.num.natAbs)), own T64 vd (Us (dg q.den))]
theorem Tm_top {l : List Nat} (h : Tm l) : ¬ (0 < l.length ∧ l.getD (l.length - 1) 0 = 0) := fun ⟨h1, h2⟩ => h.top h1 h2
theorem icheck_ok (z : Int) : ¬ ((decide (z < 0) = true ∧ (dz z).length = 0) ∨ (0 < (dz z).length ∧ (dz z).getD ((dz z).length - 1) 0 = 0)) := by
  rintro (⟨h1, h2⟩ | h)
  · have h3 := dg_nil.1 (List.eq_nil_of_length_eq_zero h2)
    simp at h1; omega
  · exact Tm_top (Tm_dg _) h
attribute [local irreducible] Fit pt own ro vw mpc lpt vels rels mow lrc dfr
theorem FMake_tr (z : Int) (o dv : Value) (m : List Nat) (hm : Dg m) (hll : (dz z).length ≤ 68719476736) (hlm : m.length ≤ 68719476736) (hm0 : nv m ≠ 0) :
    Tr Tryz.prog 51 [iv z o, dv] [vw o (Us (dz z)), vw dv (Us m)] [] (FQ2 (mkRat z (nv m)) 0) := by
  have hC := ICheck_tr (decide (z < 0)) o (dz z)
  rw [if_neg (icheck_ok z)] at hC
  have hN := NLen_tr dv m hm (by omega)
  have hL := lowest_tr (decide (z < 0)) o dv (dz z) m (Dg_dg _) hm hll hlm hm0
  have hs : sg (decide (z < 0)) (nv (dz z)) = z := by
    unfold sg; rw [nv_dg]
    by_cases h : z < 0
    · rw [if_pos (by simpa using h)]; omega
    · rw [if_neg (by simpa using h)]; omega
  rw [hs] at hL
  unfold FQ at hL
  obtain ⟨q, hq⟩ : ∃ q, q = mkRat z (nv m) := ⟨_, rfl⟩
  rw [← hq] at hL ⊢
  refine Tr.enter env _ Tryz.func51 (by kernel_rfl) rfl Tryz.ntmps51 rfl (by repeat (first | exact has00 | refine has01 ?_)) fun w0 => ?_
  repeat' first|(refine gca ?_; first|(refine ca hC ?_; rintro _ _ ⟨rfl, rfl⟩)|(refine ca hN ?_; rintro _ _ ⟨⟨nb, rfl, hnb⟩, rfl⟩)|(refine ca hL ?_; rintro _ _ ⟨vn, vd, rfl, hvn, hvd, rfl⟩))|refine bx fun q1 => ?_|refine al fun c => ?_|refine lda ?_|refine srz ?_|(refine wo ?_; first|(refine ao ?_; first|refine aw ?_|refine aw6 ?_|refine oa ?_|refine adiv ?_|refine amod ?_|refine shr1 ?_|refine shr ?_|refine umod ?_|refine isl ?_|refine ipe ?_|refine ipn ?_|refine ibe ?_)|refine acw ?_|refine ucv ?_|refine anw ?_|refine oa ?_|refine ld ?_|refine ldl ?_|refine lnm ?_|refine ixmn ?_|refine ixm ?_|refine li ?_|refine lb ?_|refine lv ?_|refine ln ?_|refine ixn ?_|refine ix ?_|refine le ?_|refine sr ?_|refine soi ?_|refine sob ?_|refine scm ?_|refine sclm ?_|refine schm ?_|refine gy ?_|refine gn ?_|refine gnn ?_|refine gu ?_|(refine gsi (fun hB => ?_) (fun hB => ?_) <;> try (exfalso; omega))|(refine gsn (fun hB => ?_) (fun hB => ?_) <;> try (exfalso; omega))|(refine gs (fun hB => ?_) (fun hB => ?_) <;> try (exfalso; omega)))|(refine gc ?_; first|refine ct ?_|refine cf ?_|(refine ci (fun hB => ?_) (fun hB => ?_) <;> try (exfalso; omega))|(refine cn (fun hB => ?_) (fun hB => ?_) <;> try (exfalso; omega))|(refine cb (fun hB => ?_) (fun hB => ?_) <;> try (exfalso; omega)))|refine sq ?_|refine rg ?_|refine xc ?_|refine nl ?_|refine sk ?_|refine bk ?_|refine xe ?_|refine rt ?_|refine xb ?_
  exact rca (cs := [.bool (decide (q.num < 0)), vn, vd]) (vs := [.bool (decide (q.num < 0)), vn, vd]) (T := TRt) ⟨vn, vd, rfl, hvn, hvd, rfl⟩
theorem FPair_tr (x y : Nat) (hx : x < 9223372036854775808) (hy : y < 9223372036854775808) (hy0 : y ≠ 0) : Tr Tryz.prog 42 [I x, I y] [] [] (FQ2 (mkRat x y) 0) := by
  have hx1 := dg_len1 (n := x) (by omega)
  have hy1 := dg_len1 (n := y) (by omega)
  have hO := IOf_tr x hx
  have hP := IOf_tr y hy
  have hM := fun o => IMake_tr false o (dg x) (Dg_dg x) (by omega)
  have hs : sg false x = (x : Int) := rfl
  have hR := fun o dv => FMake_tr (x : Int) o dv (dg y) (Dg_dg y) (by unfold dz; rw [Int.natAbs_natCast]; omega) (by omega) (by rw [nv_dg]; exact hy0)
  simp only [nv_dg, hs] at hM hR
  unfold IR at hO hP hM
  unfold dz at hR
  simp only [Int.natAbs_natCast] at hO hP hM hR
  have hxn : decide ((x : Int) < 0) = false := by simp
  have hyn : decide ((y : Int) < 0) = false := by simp
  rw [hxn] at hO
  rw [hyn] at hP
  unfold FQ2 at hR
  obtain ⟨q, hq⟩ : ∃ q, q = mkRat (x : Int) y := ⟨_, rfl⟩
  simp only [← hq] at hR ⊢
  clear hq
  refine Tr.enter env _ Tryz.func42 (by kernel_rfl) rfl Tryz.ntmps42 rfl (by repeat (first | exact has00 | refine has01 ?_)) fun w0 => ?_
  repeat' first|(refine gca ?_; first|(refine ca hO ?_; rintro _ _ ⟨o, rfl, ho, rfl⟩)|(refine ca hP ?_; rintro _ _ ⟨o2, rfl, ho2, rfl⟩))|refine al fun c => ?_|refine srz ?_|(refine wo ?_; first|(refine ao ?_; first|refine aw ?_|refine aw6 ?_|refine oa ?_|refine adiv ?_|refine amod ?_|refine shr1 ?_|refine shr ?_|refine umod ?_|refine isl ?_|refine ipe ?_|refine ipn ?_|refine ibe ?_)|refine acw ?_|refine ucv ?_|refine anw ?_|refine oa ?_|refine ld ?_|refine ldl ?_|refine lnm ?_|refine ixmn ?_|refine ixm ?_|refine li ?_|refine lb ?_|refine lv ?_|refine ln ?_|refine ixn ?_|refine ix ?_|refine le ?_|refine sr ?_|refine soi ?_|refine sob ?_|refine scm ?_|refine sclm ?_|refine schm ?_|refine gy ?_|refine gn ?_|refine gnn ?_|refine gu ?_|(refine gsi (fun hB => ?_) (fun hB => ?_) <;> try (exfalso; omega))|(refine gsn (fun hB => ?_) (fun hB => ?_) <;> try (exfalso; omega))|(refine gs (fun hB => ?_) (fun hB => ?_) <;> try (exfalso; omega)))|(refine gc ?_; first|refine ct ?_|refine cf ?_|(refine ci (fun hB => ?_) (fun hB => ?_) <;> try (exfalso; omega))|(refine cn (fun hB => ?_) (fun hB => ?_) <;> try (exfalso; omega))|(refine cb (fun hB => ?_) (fun hB => ?_) <;> try (exfalso; omega)))|refine sq ?_|refine rg ?_|refine xc ?_|refine nl ?_|refine sk ?_|refine bk ?_|refine xe ?_|refine rt ?_|refine xb ?_
  rename_i d0 d1
  rename Nat => d2
  refine rs (fun w => w.heap[d1]? = some (.cells [.bool false, o2].toArray TIt (0, 0)) ∧ w.heap[d2]? = some (.cells [.bool false, o].toArray TIt (0, 0))) ?_ (fun w hw => ⟨pt_at (b := d1) (cs := [.bool false, o2]) (T := TIt) (by (repeat (first | apply List.Mem.head | apply List.Mem.tail)); first | done | fail) hw, pt_at (b := d2) (cs := [.bool false, o]) (T := TIt) (by (repeat (first | apply List.Mem.head | apply List.Mem.tail)); first | done | fail) hw⟩)
  refine tka 0 ?_
  refine tkl 1 (cs := [.bool false, o]) (fun w h => h.2) ?_
  refine tka 2 ?_
  refine tkl 3 (cs := [.bool false, o2]) (fun w h => h.1) ?_
  refine tk 4 (v := .bool false) (fun _ _ => R_bne (E := env) (b1 := false) (b2 := false) rfl rfl rfl) ?_
  refine tka 5 ?_
  refine tkl 6 (cs := [.bool false, o]) (fun w h => h.2) ?_
  refine tka 8 ?_
  refine tkl 9 (cs := [.bool false, o2]) (fun w h => h.1) ?_
  refine t1 7 ?_
  refine ca (hM o) ?_
  rintro _ _ ⟨o3, rfl, ho3, rfl⟩
  refine nl ?_
  refine te (fun w hw => ⟨pt_at (b := d1) (cs := [.bool false, o2]) (T := TIt) (by (repeat (first | apply List.Mem.head | apply List.Mem.tail)); first | done | fail) hw, pt_at (b := d2) (cs := [.bool false, o]) (T := TIt) (by (repeat (first | apply List.Mem.head | apply List.Mem.tail)); first | done | fail) hw⟩) ?_
  refine t1 10 ?_
  refine ca (hR o3 o2) ?_
  rintro _ _ ⟨vn, vd, rfl, hvn, hvd, rfl⟩
  refine nl ?_
  refine te (fun w hw => ⟨pt_at (b := d1) (cs := [.bool false, o2]) (T := TIt) (by (repeat (first | apply List.Mem.head | apply List.Mem.tail)); first | done | fail) hw, pt_at (b := d2) (cs := [.bool false, o]) (T := TIt) (by (repeat (first | apply List.Mem.head | apply List.Mem.tail)); first | done | fail) hw⟩) ?_
  refine tka 11 ?_
  refine tka 12 ?_
  refine t1 13 ?_
  refine srz ?_
  refine nl ?_
  refine te (fun w hw => ⟨pt_at (b := d1) (cs := [.bool false, o2]) (T := TIt) (by (repeat (first | apply List.Mem.head | apply List.Mem.tail)); first | done | fail) hw, pt_at (b := d2) (cs := [.bool false, o]) (T := TIt) (by (repeat (first | apply List.Mem.head | apply List.Mem.tail)); first | done | fail) hw⟩) ?_
  refine tka 14 ?_
  refine t0 ?_
  repeat' first|(refine wo ?_; first|(refine ao ?_; first|refine aw ?_|refine aw6 ?_|refine oa ?_|refine adiv ?_|refine amod ?_|refine shr1 ?_|refine shr ?_|refine umod ?_|refine isl ?_|refine ipe ?_|refine ipn ?_|refine ibe ?_)|refine acw ?_|refine ucv ?_|refine anw ?_|refine oa ?_|refine ld ?_|refine ldl ?_|refine lnm ?_|refine ixmn ?_|refine ixm ?_|refine li ?_|refine lb ?_|refine lv ?_|refine ln ?_|refine ixn ?_|refine ix ?_|refine le ?_|refine sr ?_|refine soi ?_|refine sob ?_|refine scm ?_|refine sclm ?_|refine schm ?_|refine gy ?_|refine gn ?_|refine gnn ?_|refine gu ?_|(refine gsi (fun hB => ?_) (fun hB => ?_) <;> try (exfalso; omega))|(refine gsn (fun hB => ?_) (fun hB => ?_) <;> try (exfalso; omega))|(refine gs (fun hB => ?_) (fun hB => ?_) <;> try (exfalso; omega)))|(refine gc ?_; first|refine ct ?_|refine cf ?_|(refine ci (fun hB => ?_) (fun hB => ?_) <;> try (exfalso; omega))|(refine cn (fun hB => ?_) (fun hB => ?_) <;> try (exfalso; omega))|(refine cb (fun hB => ?_) (fun hB => ?_) <;> try (exfalso; omega)))|refine sq ?_|refine rg ?_|refine xc ?_|refine nl ?_|refine sk ?_|refine bk ?_|refine xe ?_|refine rt ?_|refine xb ?_
  exact rca (cs := [.bool (decide (q.num < 0)), vn, vd]) (vs := [.bool (decide (q.num < 0)), vn, vd]) (T := TRt) ⟨vn, vd, rfl, hvn, hvd, rfl⟩
end Go.Art
set_option linter.unusedSimpArgs false
set_option linter.unusedVariables false
namespace Go.Art
open Go Go.Proofs Go.RowKit
def fall (n : Nat) : Nat → Nat
  | 0 => 1
  | k + 1 => fall n k * (n - k)
def chs : Nat → Nat → Nat
  | _, 0 => 1
  | 0, _ + 1 => 0
  | n + 1, k + 1 => chs n k + chs n (k + 1)
theorem chs_zero (n : Nat) : chs n 0 = 1 := by cases n <;> rfl
theorem chs_succ (n k : Nat) : chs (n + 1) (k + 1) = chs n k + chs n (k + 1) := rfl
theorem chs_over : ∀ {n k : Nat}, n < k → chs n k = 0
  | 0, k + 1, _ => rfl
  | n + 1, k + 1, h => by rw [chs_succ, chs_over (by omega), chs_over (by omega)]
theorem chs_self : ∀ n : Nat, chs n n = 1
  | 0 => rfl
  | n + 1 => by rw [chs_succ, chs_self n, chs_over (by omega)]
theorem chs_next : ∀ (n k : Nat), chs n (k + 1) * (k + 1) = chs n k * (n - k)
  | 0, 0 => rfl
  | 0, k + 1 => by simp [chs]
  | n + 1, 0 => by
    rw [chs_succ, chs_zero, chs_zero]
    have := chs_next n 0
    rw [chs_zero] at this
    omega
  | n + 1, k + 1 => by
    have h1 := chs_next n k
    have h2 := chs_next n (k + 1)
    rw [chs_succ n (k + 1), chs_succ n k]
    rcases Nat.lt_or_ge k n with h | h
    · obtain ⟨m, rfl⟩ : ∃ m, n = k + 1 + m := ⟨n - (k + 1), by omega⟩
      have e1 : k + 1 + m - k = m + 1 := by omega
      have e2 : k + 1 + m - (k + 1) = m := by omega
      have e3 : k + 1 + m + 1 - (k + 1) = m + 1 := by omega
      rw [e1] at h1
      rw [e2] at h2
      rw [e3]
      generalize chs (k + 1 + m) k = a at *
      generalize chs (k + 1 + m) (k + 1) = b at *
      generalize chs (k + 1 + m) (k + 1 + 1) = c at *
      rw [Nat.add_mul, h2, Nat.add_mul, ← h1]
      simp only [Nat.mul_add, Nat.mul_one]
      omega
    · rw [chs_over (k := k + 1) (by omega), chs_over (k := k + 1 + 1) (by omega), show n + 1 - (k + 1) = 0 by omega]
      simp
theorem chs_symm : ∀ {n k : Nat}, k ≤ n → chs n (n - k) = chs n k
  | 0, k, h => by
    obtain rfl : k = 0 := (by omega)
    rfl
  | n + 1, 0, _ => by rw [Nat.sub_zero, chs_self, chs_zero]
  | n + 1, k + 1, h => by
    rcases Nat.lt_or_ge k n with h1 | h1
    · rw [show n + 1 - (k + 1) = (n - (k + 1)) + 1 by omega, chs_succ, chs_succ, chs_symm (n := n) (k := k + 1) (by omega), show n - (k + 1) + 1 = n - k by omega, chs_symm (n := n) (k := k) (by omega)]
      omega
    · obtain rfl : k = n := by omega
      rw [show k + 1 - (k + 1) = 0 by omega, chs_zero, chs_self]
theorem chs_pos {n k : Nat} (h : k ≤ n) : chs n k ≠ 0 := by
  induction n generalizing k with
  | zero =>
    obtain rfl : k = 0 := (by omega)
    exact Nat.one_ne_zero
  | succ n ih =>
    cases k with
    | zero => rw [chs_zero]; exact Nat.one_ne_zero
    | succ k => rw [chs_succ]; have := ih (k := k) (by omega); omega
theorem chs_le (n k : Nat) : chs n k ≤ 2 ^ n := by
  induction n generalizing k with
  | zero => cases k <;> simp [chs]
  | succ n ih =>
    cases k with
    | zero => rw [chs_zero]; exact Nat.one_le_two_pow
    | succ k => rw [chs_succ, Nat.pow_succ]; have := ih k; have := ih (k + 1); omega
theorem chs_len (n k : Nat) : (dg (chs n k)).length ≤ n + 1 := (dg_len _ _).2 (by
  refine Nat.lt_of_le_of_lt (chs_le n k) (Nat.lt_of_lt_of_le (Nat.pow_lt_pow_right (a := 2) (by decide) (Nat.lt_succ_self n)) (Nat.pow_le_pow_left (by decide) _))
)
theorem fall_pos {n k : Nat} (h : k ≤ n) : fall n k ≠ 0 := by
  induction k with
  | zero => exact Nat.one_ne_zero
  | succ k ih =>
    have := ih (by omega)
    exact Nat.mul_ne_zero this (by omega)
theorem fall_lt {n : Nat} (hn : n ≤ 65536) (k : Nat) : fall n k < 18446744073709551616 ^ (k + 1) := by
  induction k with
  | zero => show 1 < _; simp
  | succ k ih =>
    rw [Nat.pow_succ]
    exact Nat.mul_lt_mul_of_lt_of_le ih (by omega) (by decide)
theorem fall_len {n : Nat} (hn : n ≤ 65536) (k : Nat) : (dg (fall n k)).length ≤ k + 1 := (dg_len _ _).2 (fall_lt hn k)
theorem chs_step {n i : Nat} : chs n i * (n - i) / (i + 1) = chs n (i + 1) := by
  rw [← chs_next, Nat.mul_div_cancel _ (by omega)]
attribute [local irreducible] Fit pt own ro vw mpc lpt vels rels mow lrc dfr
abbrev eNat (u : Value) (D : List Ch) (m : Nat) (e : Int) : Prop := ∃ o, u = tup2 o (I e) ∧ o.oneCell' = true ∧ D = [own T64 o (Us (dg m))]
theorem Falling_tr (n k : Nat) (hn : n ≤ 65536) (hk : k ≤ n) : Tr Tryz.prog 43 [I n, I k] [] [] fun u D => eNat u D (fall n k) 0 := by
  refine Tr.enter env _ Tryz.func43 (by kernel_rfl) rfl Tryz.ntmps43 rfl (by repeat (first | exact has00 | refine has01 ?_)) fun w0 => ?_
  repeat' first|(refine gca ?_; first|(refine ca (Of_tr 1 (by decide)) ?_; rintro o _ ⟨ho, rfl⟩))|(refine wo ?_; first|(refine ao ?_; first|refine oa ?_)|refine oa ?_|refine gy ?_|(refine gsi (fun hB => ?_) (fun hB => ?_) <;> try (exfalso; omega)))|(refine gc ?_; first|refine cf ?_)|refine sq ?_|refine rg ?_|refine xc ?_|refine nl ?_|refine sk ?_|refine bk ?_
  refine TC.loop (ι := Nat × Value) (fun g => [(7, I g.1), (6, g.2)]) (fun g => [own T64 g.2 (Us (dg (fall n g.1)))]) (fun g => g.1 ≤ k ∧ g.2.oneCell' = true) (fun g => k - g.1) (0, o) [0, 1] ⟨Nat.zero_le _, ho⟩ ?_ (hf := by dsimp only; rw [show fall n 0 = 1 from rfl]; first | apply Fit.all | ((repeat (first | (apply Fit.nilN; (repeat (first | apply nrm_nil | apply nrm_cons)); try apply nrm_rfl) | (apply Fit.cons; focus ((repeat (first | apply Tk.here | apply Tk.there)); first | done | fail)))); first | done | fail))
  rintro ⟨i, v⟩ ⟨hi, hv⟩
  dsimp only at hi hv ⊢
  have hG := NGrow_tr v (dg (fall n i)) (n - i) (Dg_dg _) (by omega) (by have := fall_len hn i; omega)
  rw [nv_dg] at hG
  have hm : (I ((n : Int) - i)) = I ((n - i : Nat) : Int) := by rw [Int.ofNat_sub (by omega)]
  have hf : fall n i * (n - i) = fall n (i + 1) := rfl
  rw [hf] at hG
  by_cases hlt : i < k
  · repeat' first|(refine gca ?_; first|(refine ca hG ?_; rintro v2 _ ⟨hv2, rfl⟩))|refine mnn ?_|(refine ntu (m := (n : Int) - i) ?_; rw [show ((n : Int) - i).toNat = n - i by omega])|(refine wo ?_; first|(refine ao ?_; first|refine aw ?_|refine oa ?_)|refine oa ?_)|(refine gc ?_; first|(refine ci (fun hB => ?_) (fun hB => ?_) <;> try (exfalso; omega)))|refine sq ?_|refine rg ?_|refine xc ?_|refine nl ?_|refine sk ?_|refine bk ?_|refine xb ?_
    exact lp (i + 1, v2) ⟨hlt, hv2⟩
  · obtain rfl : i = k := by omega
    repeat' first|refine mnn ?_|(refine wo ?_; first|(refine ao ?_; first|refine aw ?_|refine oa ?_)|refine oa ?_)|(refine gc ?_; first|(refine ci (fun hB => ?_) (fun hB => ?_) <;> try (exfalso; omega)))|refine sq ?_|refine rg ?_|refine xc ?_|refine nl ?_|refine xe ?_|refine rt ?_
    exact r2 ⟨v, rfl, hv, rfl⟩
theorem Choose_tr (n k : Nat) (hn : n ≤ 65536) (hk : k ≤ n) : Tr Tryz.prog 50 [I n, I k] [] [] fun u D => eNat u D (chs n k) 0 := by
  obtain ⟨m, hm⟩ : ∃ m, m = min k (n - k) := ⟨_, rfl⟩
  have hcm : chs n m = chs n k := by
    rw [hm]
    rcases Nat.le_total k (n - k) with h | h
    · rw [Nat.min_eq_left h]
    · rw [Nat.min_eq_right h, chs_symm hk]
  have hmn : m ≤ n := by omega
  have hmi : min (k : Int) ((n : Int) - k) = (m : Int) := by omega
  rw [← hcm]
  clear hcm
  refine Tr.enter env _ Tryz.func50 (by kernel_rfl) rfl Tryz.ntmps50 rfl (by repeat (first | exact has00 | refine has01 ?_)) fun w0 => ?_
  repeat' first|(refine gca ?_; first|(refine ca (Of_tr 1 (by decide)) ?_; rintro o _ ⟨ho, rfl⟩))|(refine mnn ?_; rw [hmi])|(refine wo ?_; first|(refine ao ?_; first|refine aw ?_|refine oa ?_)|refine oa ?_|refine gy ?_)|(refine gc ?_; first|(refine ci (fun hB => ?_) (fun hB => ?_) <;> try (exfalso; omega)))|refine sq ?_|refine rg ?_|refine xc ?_|refine nl ?_|refine sk ?_|refine bk ?_
  clear hmi hm
  refine TC.loop (ι := Nat × Value) (fun g => [(7, I ((g.1 : Int) + 1)), (6, g.2), (8, I ((n : Int) - g.1)), (9, I ((m : Int) - g.1))]) (fun g => [own T64 g.2 (Us (dg (chs n g.1)))]) (fun g => g.1 ≤ m ∧ g.2.oneCell' = true) (fun g => m - g.1) (0, o) [] ⟨Nat.zero_le _, ho⟩ ?_ (hf := by dsimp only; rw [chs_zero]; first | apply Fit.all | ((repeat (first | (apply Fit.nilN; (repeat (first | apply nrm_nil | apply nrm_cons)); try apply nrm_rfl) | (apply Fit.cons; focus ((repeat (first | apply Tk.here | apply Tk.there)); first | done | fail)))); first | done | fail)) (hs := by dsimp only; simp only [Int.natCast_zero, Int.sub_zero, Int.zero_add]; (repeat (refine Sub.cons rfl (by first | rfl | go_num) ?_)); exact Sub.nil)
  rintro ⟨i, v⟩ ⟨hi, hv⟩
  dsimp only at hi hv ⊢
  by_cases hlt : i < m
  · have hG := NGrow_tr v (dg (chs n i)) (n - i) (Dg_dg _) (by omega) (by have := chs_len n i; omega)
    have hl1 : (dg (chs n i * (n - i))).length ≤ n + 2 := by
      have h1 := (dg_len _ _).1 (chs_len n i)
      exact (dg_len _ _).2 (by rw [Nat.pow_succ]; exact Nat.mul_lt_mul_of_lt_of_le h1 (by omega) (by decide))
    have hP := fun v => Part_tr v (dg (chs n i * (n - i))) (i + 1) (Dg_dg _) (by omega) (by omega) (by omega)
    simp only [nv_dg, chs_step] at hG hP
    repeat' first|(refine gca ?_; first|(refine ca hG ?_; rintro v2 _ ⟨hv2, rfl⟩)|(refine ca (hP v2) ?_; rintro _ _ ⟨v3, rfl, hv3, rfl⟩))|(refine ntu (m := (n : Int) - i) ?_; rw [show ((n : Int) - i).toNat = n - i by omega])|(refine ntu (m := (i : Int) + 1) ?_; rw [show ((i : Int) + 1).toNat = i + 1 by omega])|(refine wo ?_; first|(refine ao ?_; first|refine aw ?_|refine oa ?_)|refine oa ?_)|(refine gc ?_; first|(refine ci (fun hB => ?_) (fun hB => ?_) <;> try (exfalso; omega)))|refine sq ?_|refine rg ?_|refine xc ?_|refine nl ?_|refine sk ?_|refine bk ?_|refine xb ?_
    exact lp (i + 1, v3) ⟨hlt, hv3⟩ (hs := by dsimp only; (repeat (refine Sub.cons rfl (by first | rfl | go_num) ?_)); exact Sub.nil)
  · obtain rfl : i = m := by omega
    repeat' first|(refine wo ?_; first|(refine ao ?_; first|refine oa ?_)|refine oa ?_)|(refine gc ?_; first|(refine ci (fun hB => ?_) (fun hB => ?_) <;> try (exfalso; omega)))|refine sq ?_|refine rg ?_|refine xc ?_|refine nl ?_|refine xe ?_|refine rt ?_
    exact r2 ⟨v, rfl, hv, rfl⟩
end Go.Art
set_option linter.unusedSimpArgs false
set_option linter.unusedVariables false
namespace Go.Art
open Go Go.Proofs Go.RowKit
theorem fall_head (k : Nat) : ∀ d, fall k (d + 1) = k * fall (k - 1) d
  | 0 => by simp [fall]
  | d + 1 => by
    rw [show fall k (d + 1 + 1) = fall k (d + 1) * (k - (d + 1)) from rfl, fall_head k d, show fall (k - 1) (d + 1) = fall (k - 1) d * (k - 1 - d) from rfl, Nat.mul_assoc, show k - (d + 1) = k - 1 - d by omega]
theorem fm_const {α : Type} (f : Nat → List α) (m : Nat) (k : Nat) (h : ∀ i, i < k → (f i).length = m) : ((List.range k).flatMap f).length = k * m := by
  induction k with
  | zero => simp
  | succ k ih => rw [fm_len, ih (fun i hi => h i (by omega)), h k (by omega), Nat.succ_mul]
theorem endsL_len : ∀ (d k : Nat) (b : List Int), (endsL d k b).length = fall k d
  | 0, k, b => rfl
  | d + 1, k, b => by
    rw [fall_head]
    exact fm_const _ _ _ fun i _ => endsL_len d (k - 1) _
theorem fall_one {k d : Nat} (h : d ≤ k) : 1 ≤ fall k d := by
  induction d with
  | zero => simp [fall]
  | succ d ih =>
    have := ih (by omega)
    rw [show fall k (d + 1) = fall k d * (k - d) from rfl]
    exact Nat.mul_pos (by omega) (by omega)
theorem fm_ge {α : Type} (f : Nat → List α) (m : Nat) (k : Nat) (h : ∀ i, i < k → m ≤ (f i).length) : k * m ≤ ((List.range k).flatMap f).length := by
  induction k with
  | zero => simp
  | succ k ih => rw [fm_len, Nat.succ_mul]; have := ih (fun i hi => h i (by omega)); have := h k (by omega); omega
theorem lvl_pos {tot : Int} {cut oth : List Int} {k c x : Nat} (hE : alE tot cut oth = 0) (hk : cut.length ≤ k) (hc : c < cut.length) : 1 ≤ (lvlL tot cut oth k c x).length := by
  unfold lvlL
  rw [endsL_len]
  have := alPick_in hE (c := c) (l := x) (by omega)
  exact fall_one (by omega)
theorem allL_ge {tot : Int} {cut oth : List Int} {k : Nat} (hE : alE tot cut oth = 0) (hk : cut.length ≤ k) : cut.length * tot.toNat ≤ (allL tot cut oth k).length := by
  unfold allL
  refine fm_ge _ _ _ fun c hc => ?_
  unfold colL
  have := fm_ge (fun x : Nat => lvlL tot cut oth k c x) 1 tot.toNat fun x _ => lvl_pos hE hk hc
  omega
theorem endsL_mem : ∀ (d k : Nat) (b : List Int) (l : List Int), l ∈ endsL d k b → l.length = b.length + d
  | 0, k, b, l, h => by rw [List.mem_singleton.1 h]; rfl
  | d + 1, k, b, l, h => by
    obtain ⟨i, _, hi⟩ := List.mem_flatMap.1 h
    have := endsL_mem d (k - 1) _ l hi
    simp at this; omega
theorem allL_mem {tot : Int} {cut oth : List Int} {k : Nat} (hE : alE tot cut oth = 0) {l : List Int} (h : l ∈ allL tot cut oth k) : l.length ≤ 65538 := by
  obtain ⟨c, hc, h1⟩ := List.mem_flatMap.1 h
  obtain ⟨x, _, h2⟩ := List.mem_flatMap.1 h1
  have h3 := endsL_mem _ _ _ l h2
  have h4 := alPick_in hE (c := c) (l := x) (by have := List.mem_range.1 hc; omega)
  have h5 := alE_bnd hE
  simp at h3; omega
theorem allL_getD {tot : Int} {cut oth : List Int} {k : Nat} (hE : alE tot cut oth = 0) (i : Nat) : ((allL tot cut oth k).getD i []).length ≤ 65538 := by
  rw [List.getD_eq_getElem?_getD]
  cases h : (allL tot cut oth k)[i]? with
  | none => simp
  | some l => exact allL_mem hE (List.mem_of_getElem? h)
def rowsW (tot : Int) (cut oth : List Int) (k : Int) : List (List Int) × Int :=
  if rwE tot cut oth k = 0 then (if 4096 < (allL tot cut oth k.toNat).length then ([], 4) else (allL tot cut oth k.toNat, 0)) else ([], rwE tot cut oth k)
theorem rows_long {tot : Int} {cut oth : List Int} {k : Nat} (hE : alE tot cut oth = 0) (hk : cut.length ≤ k) (h : 4096 < cut.length ∨ 4096 < tot) : 4096 < (allL tot cut oth k).length := by
  have h1 := allL_ge hE hk
  have hb := alE_bnd hE
  rcases h with h | h
  · exact Nat.lt_of_lt_of_le (by have := Nat.mul_le_mul_left cut.length (show 1 ≤ tot.toNat by omega); omega) h1
  · exact Nat.lt_of_lt_of_le (by have := Nat.mul_le_mul_right tot.toNat hb.2.1; omega) h1
abbrev TLL : TypeId := 61
abbrev TEr : TypeId := 36
structure RwsG where
  v : Value
  hs : List Value
  i : Nat
  st : Bool
attribute [local irreducible] Fit pt own ro vw mpc lpt vels rels mow lrc dfr
attribute [local irreducible] lmp lme mit velg relg bnd owl dfrl allL rwE
theorem Rows_tr (tot k : Int) (cv ov : Value) (cut oth : List Int) (hc : cv.oneCell' = true) (ho : ov.oneCell' = true) : Tr Tryz.prog 32 [.agg #[I tot, cv, ov], I k] [vw cv (Is cut), vw ov (Is oth)] []
    fun u D => ∃ v hs, u = tup2 v (I (rowsW tot cut oth k).2) ∧ v.oneCell' = true ∧ hs.length = (rowsW tot cut oth k).1.length ∧ D = [own TLs v hs, owl TLI I hs (rowsW tot cut oth k).1] := by
  have hC := RwE_tr tot k cv ov cut oth hc ho
  unfold rowsW
  by_cases hz : rwE tot cut oth k = 0
  rotate_left
  · rw [if_neg hz]
    generalize rwE tot cut oth k = e at *
    refine Tr.enterM env _ Tryz.func32 (by kernel_rfl) rfl Tryz.ntmps32 rfl (by repeat (first | exact has00 | refine has01 ?_)) fun w0 => ?_
    repeat' first|(refine gca ?_; first|(refine ca hC ?_; rintro _ _ ⟨rfl, rfl⟩))|refine bx fun b => ?_|refine al fun c => ?_|refine lda ?_|(refine wo ?_; first|(refine ao ?_; first|refine oa ?_)|refine oa ?_|refine sr ?_)|(refine gc ?_; first|(refine cn (fun hB => ?_) (fun hB => ?_) <;> try (exfalso; omega)))|refine sq ?_|refine rg ?_|refine xc ?_|refine nl ?_|refine rt ?_
    refine TX.im (dfrl_nil _) ?_
    refine TX.im (owl_nil (e := TLI) (g := I) _) ?_
    refine TX.im (own_nil TLs _) ?_
    exact mcc (Ds := []) (T := TLL) (T2 := TEr) ⟨nS, [], rfl, rfl, rfl, rfl⟩
  rw [if_pos hz]
  rw [hz] at hC
  obtain ⟨hE, k1, k2, k3⟩ := rwE_ok hz
  obtain ⟨kn, rfl⟩ : ∃ kn : Nat, k = kn := ⟨k.toNat, by omega⟩
  rw [Int.toNat_natCast]
  have hlong := @rows_long tot cut oth kn hE (by omega)
  by_cases hbig : 4096 < cut.length ∨ 4096 < tot
  · rw [if_pos (hlong hbig)]
    clear hlong hE hz
    refine Tr.enterM env _ Tryz.func32 (by kernel_rfl) rfl Tryz.ntmps32 rfl (by repeat (first | exact has00 | refine has01 ?_)) fun w0 => ?_
    repeat' first|(refine gca ?_; first|(refine ca hC ?_; rintro _ _ ⟨rfl, rfl⟩))|refine bx fun b => ?_|refine al fun c => ?_|refine lda ?_|(refine wo ?_; first|(refine ao ?_; first|refine oa ?_)|refine oa ?_|refine ld ?_|refine lnm ?_|refine sr ?_|refine gy ?_|refine gn ?_|(refine gsi (fun hB => ?_) (fun hB => ?_) <;> try (exfalso; omega)))|(refine gc ?_; first|refine ct ?_|refine cf ?_|(refine ci (fun hB => ?_) (fun hB => ?_) <;> try (exfalso; omega)))|refine sq ?_|refine rg ?_|refine xc ?_|refine nl ?_|refine sk ?_|refine rt ?_
    all_goals refine TX.im (dfrl_nil _) ?_
    all_goals refine TX.im (owl_nil (e := TLI) (g := I) _) ?_
    all_goals refine TX.im (own_nil TLs _) ?_
    all_goals exact mcc (Ds := []) (T := TLL) (T2 := TEr) ⟨nS, [], rfl, rfl, rfl, rfl⟩
  clear hlong
  have hseq := fun pa pk => all1_seq tot kn cv ov cut oth pa pk hc ho hE ⟨by omega, by omega⟩
  have hel := fun i => allL_getD (k := kn) hE i
  obtain ⟨L, hL⟩ : ∃ L, L = allL tot cut oth kn := ⟨_, rfl⟩
  rw [← hL] at hseq ⊢
  simp only [← hL] at hel
  clear hL hE hz
  have hA := all_tr tot kn cv ov
  refine Tr.enterM env _ Tryz.func32 (by kernel_rfl) rfl Tryz.ntmps32 rfl (by repeat (first | exact has00 | refine has01 ?_)) fun w0 => ?_
  repeat' first|(refine gca ?_; first|(refine ca hC ?_; rintro _ _ ⟨rfl, rfl⟩)|(refine ca hA ?_; rintro _ _ ⟨pa, pk, rfl, rfl⟩))|refine bx fun b => ?_|refine al fun c => ?_|refine lda ?_|(refine wo ?_; first|(refine ao ?_; first|refine oa ?_)|refine oa ?_|refine ld ?_|refine lnm ?_|refine gy ?_|(refine gsi (fun hB => ?_) (fun hB => ?_) <;> try (exfalso; omega)))|(refine gc ?_; first|refine cf ?_|(refine ci (fun hB => ?_) (fun hB => ?_) <;> try (exfalso; omega)))|refine sq ?_|refine rg ?_|refine xc ?_|refine nl ?_|refine sk ?_|refine bk ?_
  rename_i c4 c5 hB0
  have hS := @SeqL.run _ _ _ _ _ (hseq pa pk)
  have hlent := (hseq pa pk).lent
  clear hseq hA hC
  refine TC.im (owl_nil (e := TLI) (g := I) _) ?_
  refine TC.im (own_nil TLs _) ?_
  refine TC.range [lpt pa [I tot, cv, ov] TAl, lpt pk [I kn] TLI, vw cv (Is cut), vw ov (Is oth)] [pt c [nS] TLL, pt c5 [I 0] TEr, pt c4 [nS] TLL, own TLs nS [], owl TLI I [] []] (fun l2 rec Dm pend B' => ∃ v hs i, hs.length = i ∧ v.oneCell' = true ∧ ((pend = none ∧ i = L.length ∧ i ≤ 4096 ∧ B' = [dfr Dm, pt c [v] TLL, pt c5 [I 0] TEr, pt c4 [nS] TLL, own TLs v hs, owl TLI I hs (L.take i)]) ∨ (pend = some .ret ∧ 4096 < L.length ∧ B' = [dfr Dm, pt c [v] TLL, pt c5 [I 4] TEr, pt c4 [nS] TLL, own TLs v hs, owl TLI I hs (L.take i)]))) ?_ ?_
  · intro rec l2 Dm hr
    refine Tr.unb (hS (α := RwsG) l2 (fun g => bnd [lrc l2 rec (bif g.st then .done else .ready) (bif g.st then some .ret else none), dfr Dm, pt c [g.v] TLL, pt c5 [I (bif g.st then 4 else 0)] TEr, pt c4 [nS] TLL, own TLs g.v g.hs, owl TLI I g.hs (L.take g.i)]) (fun g j => g.st = false ∧ g.i = j ∧ g.hs.length = j ∧ j ≤ 4096 ∧ g.v.oneCell' = true) (fun g => g.st = true ∧ 4096 < L.length ∧ g.hs.length = g.i ∧ g.v.oneCell' = true) ⟨nS, [], 0, false⟩ ⟨rfl, rfl, rfl, Nat.zero_le _, rfl⟩ (fun p => bnd_nob (nb1 (nb1 (nb1 (nb1 (nb1 (nb1 (nb1 nb0)))))))) ?_) ?_
    · rintro ⟨v, hs, i, st⟩ j y ⟨g1, g2, g3, g4, g5⟩ hj
      dsimp only at g1 g2 g3 g4 g5
      subst g1
      subst g2
      have hll : (L.take i).length = i := by rw [List.length_take]; omega
      have htk := take_succ' hj []
      refine Ty.bnd ?_
      show Ty _ _ _ _ [lrc l2 rec .ready none, dfr Dm, pt c [v] TLL, pt c5 [I 0] TEr, pt c4 [nS] TLL, own TLs v hs, owl TLI I hs (L.take i)] _
      refine Ty.intro env hr (by repeat (first | exact has00 | refine has01 ?_)) fun w1 => ?_
      refine TC.leni (v := y) (l := L.getD i []) fun hyl => ?_
      by_cases hfull : i = 4096
      · have hlb : 4096 < L.length := by omega
        repeat' first|refine xbeg ?_|(refine wo ?_; first|(refine ao ?_; first|refine oa ?_)|refine oa ?_|refine ld ?_|refine ln ?_|refine sr ?_)|(refine gc ?_; first|(refine ci (fun hB => ?_) (fun hB => ?_) <;> try (exfalso; omega)))|refine sq ?_|refine rg ?_|refine xc ?_|refine nl ?_|refine bk ?_|refine rt ?_
        exact yr ⟨⟨v, hs, i, true⟩, rfl, .inr ⟨rfl, rfl, hlb, g3, g5⟩⟩
      · have hK := ICloneN_tr y (L.getD i []) (by have := hel i; omega)
        repeat' first|refine xbeg ?_|(refine wo ?_; first|(refine ao ?_; first|refine oa ?_)|refine oa ?_|refine ld ?_|refine ln ?_)|(refine gc ?_; first|(refine ci (fun hB => ?_) (fun hB => ?_) <;> try (exfalso; omega)))|refine sq ?_|refine rg ?_|refine xc ?_|refine nl ?_|refine sk ?_|refine bk ?_
        refine rs (fun _ => True) ?_ (fun _ _ => trivial)
        refine t2 0 1 ?_ ?_
        · refine ld ?_
          refine nl ?_
          refine te (fun _ _ => trivial) ?_
          refine t1 1 ?_
          refine oa ?_
          refine nl ?_
          refine te (fun _ _ => trivial) ?_
          refine t1 2 ?_
          refine ca hK ?_
          rintro u1 _ ⟨hu1, rfl⟩
          refine nl ?_
          refine te (fun _ _ => trivial) ?_
          refine t1 3 ?_
          refine sli (vs := [u1]) (fun q2 => ?_) (h1 := one_cons hu1 one_nil)
          refine nl ?_
          refine te (fun _ _ => trivial) ?_
          refine t1 4 ?_
          refine ap (xs := hs) (news := [u1]) (fun o2 => ?_) (h1 := one_cons hu1 one_nil)
          refine TO.one (v := o2) (xs := hs ++ [u1]) fun ho2 => ?_
          refine nl ?_
          refine te (fun _ _ => trivial) ?_
          refine t1 5 ?_
          refine sr ?_
          refine nl ?_
          refine te (fun _ _ => trivial) ?_
          refine t0 ?_
          refine TX.im (owl_push (hs := hs) (ls := L.take i) (v := u1) (l := L.getD i []) (by rw [hll]; exact g3) (by first | apply Fit.all | ((repeat (first | (apply Fit.nilN; (repeat (first | apply nrm_nil | apply nrm_cons)); try apply nrm_rfl) | (apply Fit.cons; focus ((repeat (first | apply Tk.here | apply Tk.there)); first | done | fail)))); first | done | fail))) ?_
          rw [← htk]
          repeat' first|refine xb ?_
          exact yn ⟨⟨o2, hs ++ [u1], i + 1, false⟩, rfl, .inl ⟨rfl, rfl, rfl, by simp [g3], by omega, ho2⟩⟩
        · refine oa ?_
          refine nl ?_
          refine te (fun _ _ => trivial) ?_
          refine t2 0 2 ?_ ?_
          · refine ld ?_
            refine nl ?_
            refine te (fun _ _ => trivial) ?_
            refine t1 2 ?_
            refine ca hK ?_
            rintro u1 _ ⟨hu1, rfl⟩
            refine nl ?_
            refine te (fun _ _ => trivial) ?_
            refine t1 3 ?_
            refine sli (vs := [u1]) (fun q2 => ?_) (h1 := one_cons hu1 one_nil)
            refine nl ?_
            refine te (fun _ _ => trivial) ?_
            refine t1 4 ?_
            refine ap (xs := hs) (news := [u1]) (fun o2 => ?_) (h1 := one_cons hu1 one_nil)
            refine TO.one (v := o2) (xs := hs ++ [u1]) fun ho2 => ?_
            refine nl ?_
            refine te (fun _ _ => trivial) ?_
            refine t1 5 ?_
            refine sr ?_
            refine nl ?_
            refine te (fun _ _ => trivial) ?_
            refine t0 ?_
            refine TX.im (owl_push (hs := hs) (ls := L.take i) (v := u1) (l := L.getD i []) (by rw [hll]; exact g3) (by first | apply Fit.all | ((repeat (first | (apply Fit.nilN; (repeat (first | apply nrm_nil | apply nrm_cons)); try apply nrm_rfl) | (apply Fit.cons; focus ((repeat (first | apply Tk.here | apply Tk.there)); first | done | fail)))); first | done | fail))) ?_
            rw [← htk]
            repeat' first|refine xb ?_
            exact yn ⟨⟨o2, hs ++ [u1], i + 1, false⟩, rfl, .inl ⟨rfl, rfl, rfl, by simp [g3], by omega, ho2⟩⟩
          · refine ca hK ?_
            rintro u1 _ ⟨hu1, rfl⟩
            refine nl ?_
            refine te (fun _ _ => trivial) ?_
            refine t2 0 3 ?_ ?_
            · refine ld ?_
              refine nl ?_
              refine te (fun _ _ => trivial) ?_
              refine t1 3 ?_
              refine sli (vs := [u1]) (fun q2 => ?_) (h1 := one_cons hu1 one_nil)
              refine nl ?_
              refine te (fun _ _ => trivial) ?_
              refine t1 4 ?_
              refine ap (xs := hs) (news := [u1]) (fun o2 => ?_) (h1 := one_cons hu1 one_nil)
              refine TO.one (v := o2) (xs := hs ++ [u1]) fun ho2 => ?_
              refine nl ?_
              refine te (fun _ _ => trivial) ?_
              refine t1 5 ?_
              refine sr ?_
              refine nl ?_
              refine te (fun _ _ => trivial) ?_
              refine t0 ?_
              refine TX.im (owl_push (hs := hs) (ls := L.take i) (v := u1) (l := L.getD i []) (by rw [hll]; exact g3) (by first | apply Fit.all | ((repeat (first | (apply Fit.nilN; (repeat (first | apply nrm_nil | apply nrm_cons)); try apply nrm_rfl) | (apply Fit.cons; focus ((repeat (first | apply Tk.here | apply Tk.there)); first | done | fail)))); first | done | fail))) ?_
              rw [← htk]
              repeat' first|refine xb ?_
              exact yn ⟨⟨o2, hs ++ [u1], i + 1, false⟩, rfl, .inl ⟨rfl, rfl, rfl, by simp [g3], by omega, ho2⟩⟩
            · refine sli (vs := [u1]) (fun q2 => ?_) (h1 := one_cons hu1 one_nil)
              refine nl ?_
              refine te (fun _ _ => trivial) ?_
              refine t1 0 ?_
              refine ld ?_
              refine nl ?_
              refine te (fun _ _ => trivial) ?_
              refine t1 4 ?_
              refine ap (xs := hs) (news := [u1]) (fun o2 => ?_) (h1 := one_cons hu1 one_nil)
              refine TO.one (v := o2) (xs := hs ++ [u1]) fun ho2 => ?_
              refine nl ?_
              refine te (fun _ _ => trivial) ?_
              refine t1 5 ?_
              refine sr ?_
              refine nl ?_
              refine te (fun _ _ => trivial) ?_
              refine t0 ?_
              refine TX.im (owl_push (hs := hs) (ls := L.take i) (v := u1) (l := L.getD i []) (by rw [hll]; exact g3) (by first | apply Fit.all | ((repeat (first | (apply Fit.nilN; (repeat (first | apply nrm_nil | apply nrm_cons)); try apply nrm_rfl) | (apply Fit.cons; focus ((repeat (first | apply Tk.here | apply Tk.there)); first | done | fail)))); first | done | fail))) ?_
              rw [← htk]
              repeat' first|refine xb ?_
              exact yn ⟨⟨o2, hs ++ [u1], i + 1, false⟩, rfl, .inl ⟨rfl, rfl, rfl, by simp [g3], by omega, ho2⟩⟩
    · rintro _ _ ⟨⟨v, hs, i, st⟩, rfl, ⟨g1, g2, g3, g4, g5⟩ | ⟨g1, g2, g3, g4⟩⟩
      · dsimp only at g1 g2 g3 g4 g5
        subst g1
        exact ⟨_, rfl, .ready, none, _, rfl, by decide, v, hs, i, by omega, g5, .inl ⟨rfl, by omega, by omega, rfl⟩⟩
      · dsimp only at g1 g2 g3 g4
        subst g1
        exact ⟨_, rfl, .done, some .ret, _, rfl, by decide, v, hs, i, g3, g4, .inr ⟨rfl, g2, rfl⟩⟩
  · rintro l2 rec Dm pend B' ⟨v, hs, i, g1, g2, ⟨rfl, g3, g4, rfl⟩ | ⟨rfl, g3, rfl⟩⟩
    · show TX env _ _ _ _ _ _
      rw [if_neg (by omega)]
      refine TX.im (dfrl_nil _) ?_
      refine TX.im (dfrl_push (D := Dm) (Ds := []) (by first | apply Fit.all | ((repeat (first | (apply Fit.nilN; (repeat (first | apply nrm_nil | apply nrm_cons)); try apply nrm_rfl) | (apply Fit.cons; focus ((repeat (first | apply Tk.here | apply Tk.there)); first | done | fail)))); first | done | fail))) ?_
      repeat' first|(refine wo ?_; first|refine ld ?_|refine sr ?_)|refine sq ?_|refine rg ?_|refine xc ?_|refine nl ?_|refine rt ?_|refine xb ?_
      rw [g3, List.take_length]
      exact mcc (Ds := [Dm]) (T := TLL) (T2 := TEr) ⟨v, hs, rfl, g2, by dsimp only; omega, rfl⟩
    · show TC env _ _ _ _ _ _
      rw [if_pos g3]
      refine TC.im (dfrl_nil _) ?_
      refine TC.im (dfrl_push (D := Dm) (Ds := []) (by first | apply Fit.all | ((repeat (first | (apply Fit.nilN; (repeat (first | apply nrm_nil | apply nrm_cons)); try apply nrm_rfl) | (apply Fit.cons; focus ((repeat (first | apply Tk.here | apply Tk.there)); first | done | fail)))); first | done | fail))) ?_
      repeat' first|refine rt ?_
      refine TX.im (owl_nil (e := TLI) (g := I) _) ?_
      refine TX.im (own_nil TLs _) ?_
      exact mcc (Ds := [Dm]) (T := TLL) (T2 := TEr) ⟨nS, [], rfl, rfl, rfl, rfl⟩
end Go.Art
set_option linter.unusedSimpArgs false
set_option linter.unusedVariables false
namespace Go.Art
open Go Go.Proofs Go.RowKit
abbrev Fr3 := Bool × List Nat × List Nat
abbrev rqf (q : Rat) : Fr3 := (decide (q.num < 0), dg q.num.natAbs, dg q.den)
abbrev rqn : Fr3 := (false, [], [])
abbrev FW (t : Fr3 × Int) (u : Value) (D : List Ch) : Prop := ∃ vn vd, u = tup2 (.agg #[.bool t.1.1, vn, vd]) (I t.2) ∧ vn.oneCell' = true ∧ vd.oneCell' = true ∧ D = [own T64 vn (Us t.1.2.1), own T64 vd (Us t.1.2.2)]
theorem FW.of0 {e : Int} {u : Value} {D : List Ch} (h : u = tup2 rv0 (I e) ∧ D = [own T64 nS (Us []), own T64 nS (Us [])]) : FW (rqn, e) u D := ⟨nS, nS, h.1, rfl, rfl, h.2⟩
def meaW (tot : Int) (cut oth : List Int) (k d : Int) : Fr3 × Int :=
  if rwE tot cut oth k = 0 then (if d < 1 ∨ cut.length < d then (rqn, 3) else (rqf (mkRat 1 (fall k.toNat d.toNat * cut.length * tot.toNat)), 0)) else (rqn, rwE tot cut oth k)
def chaW (t : List Int) (k d : Int) : Fr3 × Int :=
  if solE t k = 0 then (if d < 1 ∨ t.length < d then (rqn, 3) else (rqf (mkRat (t.getD (d - 1).toNat 0) (chs k.toNat d.toNat * t.sum.toNat)), 0)) else (rqn, 13)
section
variable {P : Program} {E : Env P} {X : Cx} {fr : Fr} {A D G : List Ch}
theorem rcc {w0 : World} {A0 : List Ch} {R' : Value → List Ch → Prop} {fn : Func} {t nn : Nat} {ty T : TypeId} {dt : TypeDesc} {b : Nat} {cs : List Value} {v : Value} (h : R' v D) (hr : fn.results = #[.cell t ty] := by rfl) (ht : lk E.und ty = some dt := by rfl) (hg : aggB dt = false := by rfl)
    (hv : get fr t = some (ptr b) := by rfl) (hm : pt b cs T ∈ A := by (repeat (first | apply List.Mem.head | apply List.Mem.tail)); first | done | fail) (hc : cs[0]? = some v := by rfl) (hf : Fit A D G := by first | apply Fit.all | ((repeat (first | (apply Fit.nilN; (repeat (first | apply nrm_nil | apply nrm_cons)); try apply nrm_rfl) | (apply Fit.cons; focus ((repeat (first | apply Tk.here | apply Tk.there)); first | done | fail)))); first | done | fail)) (nb : ∀ c ∈ D, ∀ b, ¬ c.bd b := by (repeat (first | exact nb0 | refine nb1 ?_)); first | done | fail) :
    TX E ⟨nn, [], none⟩ ⟨bodyPost P fn (RetP (PR w0 A0 R')), w0, A0⟩ [] .ret fr A := ⟨fun w hw => ⟨fun a ha =>
  bodyPost_ret (res_c (E := E) ha hr ht hg hv (ptcell hw.sat hm hc)) (ha.defers.trans rfl) ⟨_, rfl, PR.mk h hw hf nb⟩⟩⟩
end
attribute [local irreducible] Fit pt own ro vw mpc lpt vels rels mow lrc dfr
attribute [local irreducible] lmp lme mit velg relg
theorem one_tr : Tr Tryz.prog 79 [] [] [] fun u D => u.oneCell' = true ∧ D = [own T64 u (Us [1])] := by
  refine Tr.enter env _ Tryz.func79 (by kernel_rfl) rfl Tryz.ntmps79 rfl (by repeat (first | exact has00 | refine has01 ?_)) fun w0 => ?_
  repeat' first|(refine slu [1] fun o ho => ?_)|(refine wo ?_; first|refine oa ?_)|refine sq ?_|refine rg ?_|refine xc ?_|refine nl ?_|refine rt ?_
  exact r1 ⟨ho, rfl⟩
theorem soAdd_tr (c : Nat) (m w : Int) (h : -9223372036854775808 ≤ m + w ∧ m + w ≤ 9223372036854775807) : Tr Tryz.prog 91 [I w, ptr c] [] [pt c [I m] TLI] fun _ D => D = [pt c [I (m + w)] TLI] := by
  refine Tr.enter env _ Tryz.func91 (by kernel_rfl) rfl Tryz.ntmps91 rfl (by repeat (first | exact has00 | refine has01 ?_)) fun w0 => ?_
  repeat' first|(refine wo ?_; first|(refine ao ?_; first|refine aw ?_)|refine oa ?_|refine ld ?_|refine sr ?_)|refine rg ?_|refine nl ?_
  exact e0 rfl
theorem SoTotal_tr (s : Value) (t : List Int) (h1 : 1 ≤ t.length ∧ t.length ≤ 65536) (hw : ∀ w ∈ t, 0 ≤ w ∧ w ≤ 16777215) : Tr Tryz.prog 54 [s] [vw s (Is t)] [] fun v D => v = I t.sum ∧ D = [] := by
  refine Tr.enter env _ Tryz.func54 (by kernel_rfl) rfl Tryz.ntmps54 rfl (by repeat (first | exact has00 | refine has01 ?_)) fun w0 => ?_
  repeat' first|refine al fun c => ?_|(refine wo ?_; first|refine oa ?_|refine lnm ?_)|refine sq ?_|refine rg ?_|refine xc ?_|refine nl ?_|refine bk ?_
  refine TC.loop (ι := Nat) (fun i => [(9, I i)]) (fun i => [pt c [I (t.take i).sum] TLI]) (fun i => i ≤ t.length) (fun i => t.length - i) 0 [2, 3, 7, 8] (by simp) ?_
  rintro i h2
  by_cases hi : i < t.length
  · have hs := take_sum hi
    have hb := hw _ (mem_getD.2 ⟨i, hi, rfl⟩)
    have hc := sum_bound (t := t.take i) fun w h => hw w (List.mem_of_mem_take h)
    rw [List.length_take] at hc
    generalize hy : t.getD i 0 = y at *
    generalize (t.take i).sum = m at *
    repeat' first|refine lie hy ?_|(refine cav (cap := #[ptr c]) (vs := [I y]) (soAdd_tr c m y (by omega)) ?_; rintro _ _ rfl)|(refine wo ?_; first|(refine ao ?_; first|refine aw ?_|refine oa ?_)|refine oa ?_|refine ixmn ?_)|(refine gc ?_; first|(refine ci (fun hB => ?_) (fun hB => ?_) <;> try (exfalso; omega)))|refine sq ?_|refine rg ?_|refine xc ?_|refine nl ?_|refine sk ?_|refine bk ?_|refine xb ?_
    exact lp (i + 1) (by omega) (hf := by rw [hs]; first | apply Fit.all | ((repeat (first | (apply Fit.nilN; (repeat (first | apply nrm_nil | apply nrm_cons)); try apply nrm_rfl) | (apply Fit.cons; focus ((repeat (first | apply Tk.here | apply Tk.there)); first | done | fail)))); first | done | fail))
  · obtain rfl : i = t.length := by omega
    rw [List.take_length]
    repeat' first|(refine wo ?_; first|(refine ao ?_; first|refine oa ?_)|refine ld ?_|refine sr ?_)|(refine gc ?_; first|(refine ci (fun hB => ?_) (fun hB => ?_) <;> try (exfalso; omega)))|refine sq ?_|refine rg ?_|refine xc ?_|refine nl ?_|refine xe ?_|refine rt ?_
    exact rcc (cs := [I t.sum]) (T := TLI) ⟨rfl, rfl⟩
theorem over1_tr (v : Value) (l : List Nat) (hd : Dg l) (hl : l.length ≤ 68719476736) (h0 : nv l ≠ 0) : Tr Tryz.prog 44 [v] [vw v (Us l)] [] (FQ (mkRat 1 (nv l))) := by
  have hO := IOf_tr 1 (by decide)
  have hd1 : (dz ((1 : Nat) : Int)).length ≤ 1 := dg_len1 (by decide)
  have hM := fun o => FMake_tr ((1 : Nat) : Int) o v l hd (by omega) hl h0
  unfold IR at hO
  rw [show (((1 : Nat) : Int)).natAbs = 1 from rfl] at hO
  unfold dz at hM
  simp only [show (((1 : Nat) : Int)).natAbs = 1 from rfl] at hM
  unfold FQ2 at hM
  simp only [show ((1 : Nat) : Int) = 1 from rfl] at hM hO
  obtain ⟨q, hq⟩ : ∃ q, q = mkRat 1 (nv l) := ⟨_, rfl⟩
  simp only [← hq] at hM ⊢
  refine Tr.enter env _ Tryz.func44 (by kernel_rfl) rfl Tryz.ntmps44 rfl (by repeat (first | exact has00 | refine has01 ?_)) fun w0 => ?_
  repeat' first|(refine gca ?_; first|(refine ca hO ?_; rintro _ _ ⟨o, rfl, ho, rfl⟩)|(refine ca (hM o) ?_; rintro _ _ ⟨vn, vd, rfl, hvn, hvd, rfl⟩))|refine al fun c => ?_|refine lda ?_|refine srz ?_|(refine wo ?_; first|refine oa ?_)|refine sq ?_|refine rg ?_|refine xc ?_|refine nl ?_|refine rt ?_
  exact rca1 (cs := [.bool (decide (q.num < 0)), vn, vd]) (vs := [.bool (decide (q.num < 0)), vn, vd]) (T := TRt) ⟨vn, vd, rfl, hvn, hvd, rfl⟩
end Go.Art
set_option linter.unusedSimpArgs false
set_option linter.unusedVariables false
namespace Go.Art
open Go Go.Proofs Go.RowKit
theorem R_ntu {P : Program} {E : Env P} {n : Sh} {fr : Fr} {w : World} {t t' ty : TypeId} {x : Operand} {k0 : IntKind} {m : Int} (ht : lk E.und t' = some (.int .u64)) (hs : (lk E.und t).isSome = true) (hx : ev fr x = some (.int k0 m)) (hb : 0 ≤ m ∧ m < 18446744073709551616) : OpV P n fr (.convert t t' x) ty w (Un m.toNat) w := by
  have := R_conv (P := P) (n := n) (w := w) (ty := ty) ht hs hx; rwa [wrapN m m.toNat (by omega)] at this
theorem R_ntuk {P : Program} {E : Env P} {n : Sh} {fr : Fr} {w : World} {t t' ty : TypeId} {x : Operand} {k0 : IntKind} {m : Nat} (ht : lk E.und t' = some (.int .u64)) (hs : (lk E.und t).isSome = true) (hx : ev fr x = some (.int k0 (m : Int))) (hb : m < 18446744073709551616) : OpV P n fr (.convert t t' x) ty w (Un m) w := by
  have := R_ntu (P := P) (n := n) (w := w) (ty := ty) ht hs hx (by omega); rwa [Int.toNat_natCast] at this
theorem dg_grow_len {a x L : Nat} (h : (dg a).length ≤ L) (hx : x < 18446744073709551616) : (dg (a * x)).length ≤ L + 1 := (dg_len _ _).2 (by
  rw [Nat.pow_succ]; exact Nat.mul_lt_mul_of_lt_of_le ((dg_len _ _).1 h) (by omega) (by decide))
theorem meaW_ok {tot : Int} {cut oth : List Int} {k d : Int} (hk : rwE tot cut oth k = 0) (hd : ¬ (d < 1 ∨ cut.length < d)) : meaW tot cut oth k d = (rqf (mkRat 1 (fall k.toNat d.toNat * cut.length * tot.toNat)), 0) := by
  unfold meaW; rw [if_pos hk, if_neg hd]
theorem sum_wOk {t : List Int} (h : ∀ w ∈ t, 0 ≤ w ∧ w ≤ 16777215) : 0 ≤ t.sum ∧ t.sum ≤ 16777215 * t.length := sum_bound h
theorem sum_posT {t : List Int} (h : ∀ w ∈ t, 0 ≤ w ∧ w ≤ 16777215) (hp : ∃ w ∈ t, 0 < w) : 0 < t.sum := by
  induction t with
  | nil => obtain ⟨w, hw, _⟩ := hp; cases hw
  | cons a r ih =>
    have h1 := h a (by simp)
    have h2 := sum_bound (t := r) fun w hw => h w (by simp [hw])
    rw [List.sum_cons]
    obtain ⟨w, hw, hw0⟩ := hp
    rcases List.mem_cons.1 hw with rfl | hw
    · omega
    · have := ih (fun w hw => h w (by simp [hw])) ⟨w, hw, hw0⟩; omega
attribute [local irreducible] Fit pt own ro vw mpc lpt vels rels mow lrc dfr
attribute [local irreducible] lmp lme mit velg relg
theorem MeaW_tr (tot k d : Int) (cv ov : Value) (cut oth : List Int) (hc : cv.oneCell' = true) (ho : ov.oneCell' = true) : Tr Tryz.prog 14 [.agg #[I tot, cv, ov], I k, I d] [vw cv (Is cut), vw ov (Is oth)] []
    (FW (meaW tot cut oth k d)) := by
  have hck := RwE_tr tot k cv ov cut oth hc ho
  by_cases hk : rwE tot cut oth k = 0
  rotate_left
  · unfold meaW
    rw [if_neg hk]
    generalize rwE tot cut oth k = e at *
    refine Tr.mono (R := fun u D => u = tup2 rv0 (I e) ∧ D = [own T64 nS (Us []), own T64 nS (Us [])]) ?_ fun u D h => FW.of0 h
    refine Tr.enter env _ Tryz.func14 (by kernel_rfl) rfl Tryz.ntmps14 rfl (by repeat (first | exact has00 | refine has01 ?_)) fun w0 => ?_
    repeat' first|(refine gca ?_; first|(refine ca hck ?_; rintro _ _ ⟨rfl, rfl⟩))|refine bx fun b => ?_|refine al fun b2 => ?_|refine lda ?_|refine bdm ?_|refine srz ?_|(refine wo ?_; first|(refine ao ?_; first|refine oa ?_)|refine oa ?_)|(refine gc ?_; first|(refine cn (fun hB => ?_) (fun hB => ?_) <;> try (exfalso; omega)))|refine sq ?_|refine rg ?_|refine xc ?_|refine nl ?_|refine rt ?_
    refine TX.im (own_nil T64 _) (TX.im (own_nil T64 _) ?_)
    exact rca (cs := [.bool false, nS, nS]) (vs := [.bool false, nS, nS]) (T := TRt) ⟨rfl, rfl⟩
  rw [hk] at hck
  obtain ⟨hE, k1, k2, k3⟩ := rwE_ok hk
  have hb := alE_bnd hE
  by_cases hd : d < 1 ∨ cut.length < d
  · unfold meaW
    rw [if_pos hk, if_pos hd]
    clear hk hE
    refine Tr.mono (R := fun u D => u = tup2 rv0 (I 3) ∧ D = [own T64 nS (Us []), own T64 nS (Us [])]) ?_ fun u D h => FW.of0 h
    refine Tr.enter env _ Tryz.func14 (by kernel_rfl) rfl Tryz.ntmps14 rfl (by repeat (first | exact has00 | refine has01 ?_)) fun w0 => ?_
    repeat' first|(refine gca ?_; first|(refine ca hck ?_; rintro _ _ ⟨rfl, rfl⟩))|refine bx fun b => ?_|refine al fun b2 => ?_|refine lda ?_|refine bdm ?_|refine srz ?_|(refine wo ?_; first|(refine ao ?_; first|refine oa ?_)|refine oa ?_|refine ld ?_|refine lnm ?_|refine gy ?_|refine gn ?_|(refine gsi (fun hB => ?_) (fun hB => ?_) <;> try (exfalso; omega)))|(refine gc ?_; first|refine ct ?_|refine cf ?_|(refine ci (fun hB => ?_) (fun hB => ?_) <;> try (exfalso; omega)))|refine sq ?_|refine rg ?_|refine xc ?_|refine nl ?_|refine sk ?_|refine rt ?_
    all_goals
      refine TX.im (own_nil T64 _) (TX.im (own_nil T64 _) ?_)
      exact rca (cs := [.bool false, nS, nS]) (vs := [.bool false, nS, nS]) (T := TRt) ⟨rfl, rfl⟩
  rw [meaW_ok hk hd]
  obtain ⟨kn, rfl⟩ : ∃ kn : Nat, k = kn := ⟨k.toNat, by omega⟩
  obtain ⟨dn, rfl⟩ : ∃ dn : Nat, d = dn := ⟨d.toNat, by omega⟩
  obtain ⟨tn, rfl⟩ : ∃ tn : Nat, tot = tn := ⟨tot.toNat, by omega⟩
  simp only [Int.toNat_natCast]
  have hF := Falling_tr kn dn (by omega) (by omega)
  have hfl := fall_len (n := kn) (by omega) dn
  have hfp := fall_pos (n := kn) (k := dn) (by omega)
  obtain ⟨f0, hf0⟩ : ∃ f0, f0 = fall kn dn := ⟨_, rfl⟩
  rw [← hf0] at hF hfl hfp ⊢
  have hG1 := fun v => NGrow_tr v (dg f0) cut.length (Dg_dg _) (by omega) (by omega)
  have hl2 := dg_grow_len (x := cut.length) hfl (by omega)
  have hG2 := fun v => NGrow_tr v (dg (f0 * cut.length)) tn (Dg_dg _) (by omega) (by omega)
  have hl3 := dg_grow_len (x := tn) hl2 (by omega)
  have hp3 : f0 * cut.length * tn ≠ 0 := Nat.mul_ne_zero (Nat.mul_ne_zero hfp (by omega)) (by omega)
  have hO := fun v => over1_tr v (dg (f0 * cut.length * tn)) (Dg_dg _) (by omega) (by rw [nv_dg]; exact hp3)
  simp only [nv_dg] at hG1 hG2 hO
  clear hk hE hf0 hfp hp3 hl2 hl3
  obtain ⟨f1, hf1⟩ : ∃ f1, f1 = f0 * cut.length := ⟨_, rfl⟩
  simp only [← hf1] at hG1 hG2 hO ⊢
  obtain ⟨f2, hf2⟩ : ∃ f2, f2 = f1 * tn := ⟨_, rfl⟩
  simp only [← hf2] at hG2 hO ⊢
  obtain ⟨q, hq⟩ : ∃ q, q = mkRat 1 f2 := ⟨_, rfl⟩
  simp only [← hq] at hO ⊢
  clear hq hf1 hf2
  unfold FQ at hO
  refine Tr.enter env _ Tryz.func14 (by kernel_rfl) rfl Tryz.ntmps14 rfl (by repeat (first | exact has00 | refine has01 ?_)) fun w0 => ?_
  repeat' first|(refine gca ?_; first|(refine ca hck ?_; rintro _ _ ⟨rfl, rfl⟩)|(refine ca hF ?_; rintro _ _ ⟨o, rfl, ho2, rfl⟩))|refine bx fun b => ?_|refine al fun b2 => ?_|refine lda ?_|(refine wo ?_; first|(refine ao ?_; first|refine oa ?_)|refine oa ?_|refine ld ?_|refine lnm ?_|refine gy ?_|(refine gsi (fun hB => ?_) (fun hB => ?_) <;> try (exfalso; omega)))|(refine gc ?_; first|refine cf ?_|(refine ci (fun hB => ?_) (fun hB => ?_) <;> try (exfalso; omega)))|refine sq ?_|refine rg ?_|refine xc ?_|refine nl ?_|refine sk ?_
  refine rs (fun w => w.heap[b]? = some (.cells [I tn, cv, ov].toArray TAl (0, 0)) ∧ Sl w cv (Is cut)) ?_ (fun w hw => ⟨pt_at (b := b) (cs := [I tn, cv, ov]) (T := TAl) (by (repeat (first | apply List.Mem.head | apply List.Mem.tail)); first | done | fail) hw, vw_sl (hw.h (vw cv (Is cut)) (by (repeat (first | apply List.Mem.head | apply List.Mem.tail)); first | done | fail))⟩)
  refine tka 0 ?_
  refine tka 1 ?_
  refine tkl 2 (cs := [I tn, cv, ov]) (fun w h => h.1) ?_
  refine tke 3 (v := I cut.length) (by rw [Is_len]) (fun w h => R_len (E := env) (xs := Is cut) rfl rfl h.2) ?_
  refine tk 4 (v := Un cut.length) (fun w h => R_ntuk (E := env) (m := cut.length) rfl rfl rfl (by omega)) ?_
  refine tka 6 ?_
  refine tkl 7 (cs := [I tn, cv, ov]) (fun w h => h.1) ?_
  refine tk 8 (v := Un tn) (fun w h => R_ntuk (E := env) (m := tn) rfl rfl rfl (by omega)) ?_
  refine t1 5 ?_
  refine ca (hG1 o) ?_
  rintro u1 _ ⟨hu1, rfl⟩
  refine nl ?_
  refine te (fun w hw => ⟨pt_at (b := b) (cs := [I tn, cv, ov]) (T := TAl) (by (repeat (first | apply List.Mem.head | apply List.Mem.tail)); first | done | fail) hw, vw_sl (hw.h (vw cv (Is cut)) (by (repeat (first | apply List.Mem.head | apply List.Mem.tail)); first | done | fail))⟩) ?_
  refine t1 9 ?_
  refine ca (hG2 u1) ?_
  rintro u2 _ ⟨hu2, rfl⟩
  refine nl ?_
  refine te (fun w hw => ⟨pt_at (b := b) (cs := [I tn, cv, ov]) (T := TAl) (by (repeat (first | apply List.Mem.head | apply List.Mem.tail)); first | done | fail) hw, vw_sl (hw.h (vw cv (Is cut)) (by (repeat (first | apply List.Mem.head | apply List.Mem.tail)); first | done | fail))⟩) ?_
  refine t1 10 ?_
  refine ca (hO u2) ?_
  rintro _ _ ⟨vn, vd, rfl, hvn, hvd, rfl⟩
  refine nl ?_
  refine te (fun w hw => ⟨pt_at (b := b) (cs := [I tn, cv, ov]) (T := TAl) (by (repeat (first | apply List.Mem.head | apply List.Mem.tail)); first | done | fail) hw, vw_sl (hw.h (vw cv (Is cut)) (by (repeat (first | apply List.Mem.head | apply List.Mem.tail)); first | done | fail))⟩) ?_
  refine t1 11 ?_
  refine srz ?_
  refine nl ?_
  refine te (fun w hw => ⟨pt_at (b := b) (cs := [I tn, cv, ov]) (T := TAl) (by (repeat (first | apply List.Mem.head | apply List.Mem.tail)); first | done | fail) hw, vw_sl (hw.h (vw cv (Is cut)) (by (repeat (first | apply List.Mem.head | apply List.Mem.tail)); first | done | fail))⟩) ?_
  refine tka 12 ?_
  refine t0 ?_
  repeat' first|refine xc ?_|refine rt ?_
  exact rca (cs := [.bool (decide (q.num < 0)), vn, vd]) (vs := [.bool (decide (q.num < 0)), vn, vd]) (T := TRt) ⟨vn, vd, rfl, hvn, hvd, rfl⟩
theorem ChaW_tr (s : Value) (t : List Int) (k d : Int) : Tr Tryz.prog 16 [s, I k, I d] [vw s (Is t)] [] (FW (chaW t k d)) := by
  have hck := SoCheck_tr s t k
  by_cases hk : solE t k = 0
  rotate_left
  · unfold chaW
    rw [if_neg hk]
    rw [(solE_cases t k).resolve_left hk] at hck
    refine Tr.mono (R := fun u D => u = tup2 rv0 (I 13) ∧ D = [own T64 nS (Us []), own T64 nS (Us [])]) ?_ fun u D h => FW.of0 h
    refine Tr.enter env _ Tryz.func16 (by kernel_rfl) rfl Tryz.ntmps16 rfl (by repeat (first | exact has00 | refine has01 ?_)) fun w0 => ?_
    repeat' first|(refine gca ?_; first|(refine ca hck ?_; rintro _ _ ⟨rfl, rfl⟩))|refine al fun b2 => ?_|refine bdm ?_|refine srz ?_|(refine wo ?_; first|(refine ao ?_; first|refine oa ?_)|refine oa ?_)|(refine gc ?_; first|refine ct ?_)|refine sq ?_|refine rg ?_|refine xc ?_|refine nl ?_|refine bk ?_|refine rt ?_
    refine TX.im (own_nil T64 _) (TX.im (own_nil T64 _) ?_)
    exact rca (cs := [.bool false, nS, nS]) (vs := [.bool false, nS, nS]) (T := TRt) ⟨rfl, rfl⟩
  rw [hk] at hck
  obtain ⟨⟨k1, k2⟩, ⟨t1, t2⟩, hw, hpos⟩ := solE_zero hk
  by_cases hd : d < 1 ∨ t.length < d
  · unfold chaW
    rw [if_pos hk, if_pos hd]
    clear hk hpos
    refine Tr.mono (R := fun u D => u = tup2 rv0 (I 3) ∧ D = [own T64 nS (Us []), own T64 nS (Us [])]) ?_ fun u D h => FW.of0 h
    refine Tr.enter env _ Tryz.func16 (by kernel_rfl) rfl Tryz.ntmps16 rfl (by repeat (first | exact has00 | refine has01 ?_)) fun w0 => ?_
    repeat' first|(refine gca ?_; first|(refine ca hck ?_; rintro _ _ ⟨rfl, rfl⟩))|refine al fun b2 => ?_|refine bdm ?_|refine srz ?_|(refine wo ?_; first|(refine ao ?_; first|refine oa ?_)|refine oa ?_|refine lnm ?_|refine gy ?_|refine gn ?_|(refine gsi (fun hB => ?_) (fun hB => ?_) <;> try (exfalso; omega)))|(refine gc ?_; first|refine ct ?_|refine cf ?_|(refine ci (fun hB => ?_) (fun hB => ?_) <;> try (exfalso; omega)))|refine sq ?_|refine rg ?_|refine xc ?_|refine nl ?_|refine bk ?_|refine rt ?_
    all_goals
      refine TX.im (own_nil T64 _) (TX.im (own_nil T64 _) ?_)
      exact rca (cs := [.bool false, nS, nS]) (vs := [.bool false, nS, nS]) (T := TRt) ⟨rfl, rfl⟩
  rw [show chaW t k d = (rqf (mkRat (t.getD (d - 1).toNat 0) (chs k.toNat d.toNat * t.sum.toNat)), 0) by unfold chaW; rw [if_pos hk, if_neg hd]]
  obtain ⟨kn, rfl⟩ : ∃ kn : Nat, k = kn := ⟨k.toNat, by omega⟩
  obtain ⟨dn, rfl⟩ : ∃ dn : Nat, d = dn := ⟨d.toNat, by omega⟩
  have hT := SoTotal_tr s t ⟨by omega, by omega⟩ hw
  have hsb := sum_wOk hw
  have hsp : 0 < t.sum := sum_posT hw hpos
  obtain ⟨tn, htn⟩ : ∃ tn : Nat, t.sum = tn := ⟨t.sum.toNat, by omega⟩
  rw [htn] at hT hsb hsp ⊢
  have hwb := hw (t.getD ((dn : Int) - 1).toNat 0) (mem_getD.2 ⟨_, by omega, rfl⟩)
  obtain ⟨wn, hwn⟩ : ∃ wn : Nat, t.getD ((dn : Int) - 1).toNat 0 = wn := ⟨(t.getD ((dn : Int) - 1).toNat 0).toNat, by omega⟩
  rw [hwn] at hwb ⊢
  simp only [Int.toNat_natCast]
  have hF := Choose_tr kn dn (by omega) (by omega)
  have hfl := chs_len kn dn
  have hfp := chs_pos (n := kn) (k := dn) (by omega)
  obtain ⟨f0, hf0⟩ : ∃ f0, f0 = chs kn dn := ⟨_, rfl⟩
  rw [← hf0] at hF hfl hfp ⊢
  have hG1 := fun v => NGrow_tr v (dg f0) tn (Dg_dg _) (by omega) (by omega)
  have hl2 := dg_grow_len (x := tn) hfl (by omega)
  have hp2 : f0 * tn ≠ 0 := Nat.mul_ne_zero hfp (by omega)
  have hw1 := dg_len1 (n := wn) (by omega)
  have hM := fun o => IMake_tr false o (dg wn) (Dg_dg wn) (by omega)
  have hs : sg false wn = (wn : Int) := rfl
  have hR := fun o dv => FMake_tr (wn : Int) o dv (dg (f0 * tn)) (Dg_dg _) (by unfold dz; rw [Int.natAbs_natCast]; omega) (by omega) (by rw [nv_dg]; exact hp2)
  simp only [nv_dg, hs] at hG1 hM hR
  unfold IR at hM
  unfold dz at hR
  simp only [Int.natAbs_natCast] at hM hR
  unfold FQ2 at hR
  clear hk hpos hf0 hfp hp2 hl2 hs hw
  obtain ⟨f1, hf1⟩ : ∃ f1, f1 = f0 * tn := ⟨_, rfl⟩
  simp only [← hf1] at hG1 hR ⊢
  obtain ⟨q, hq⟩ : ∃ q, q = mkRat (wn : Int) f1 := ⟨_, rfl⟩
  simp only [← hq] at hR ⊢
  clear hq hf1
  refine Tr.enter env _ Tryz.func16 (by kernel_rfl) rfl Tryz.ntmps16 rfl (by repeat (first | exact has00 | refine has01 ?_)) fun w0 => ?_
  repeat' first|(refine gca ?_; first|(refine ca hck ?_; rintro _ _ ⟨rfl, rfl⟩)|(refine ca hF ?_; rintro _ _ ⟨o, rfl, ho, rfl⟩)|(refine ca (Of_tr wn (by omega)) ?_; rintro o1 _ ⟨ho1, rfl⟩)|(refine ca (hM o1) ?_; rintro _ _ ⟨o2, rfl, ho2, rfl⟩)|(refine ca hT ?_; rintro _ _ ⟨rfl, rfl⟩)|(refine ca (hG1 o) ?_; rintro u1 _ ⟨hu1, rfl⟩)|(refine ca (hR o2 u1) ?_; rintro _ _ ⟨vn, vd, rfl, hvn, hvd, rfl⟩))|refine al fun b2 => ?_|(refine lie hwn ?_)|(refine ntu (m := (wn : Int)) ?_; rw [Int.toNat_natCast])|(refine ntu (m := (tn : Int)) ?_; rw [Int.toNat_natCast])|refine srz ?_|(refine wo ?_; first|(refine ao ?_; first|refine aw ?_|refine oa ?_)|refine oa ?_|refine lnm ?_|refine ixm ?_|refine gy ?_|(refine gsi (fun hB => ?_) (fun hB => ?_) <;> try (exfalso; omega)))|(refine gc ?_; first|refine cf ?_|(refine ci (fun hB => ?_) (fun hB => ?_) <;> try (exfalso; omega)))|refine sq ?_|refine rg ?_|refine xc ?_|refine nl ?_|refine sk ?_|refine bk ?_|refine rt ?_|refine xb ?_
  exact rca (cs := [.bool (decide (q.num < 0)), vn, vd]) (vs := [.bool (decide (q.num < 0)), vn, vd]) (T := TRt) ⟨vn, vd, rfl, hvn, hvd, rfl⟩
end Go.Art
set_option linter.unusedSimpArgs false
set_option linter.unusedVariables false
namespace Go.Art
open Go Go.Proofs Go.RowKit
theorem endsL_pre : ∀ (d k : Nat) (b : List Int), endsL d k b = (endsL d k []).map (b ++ ·)
  | 0, k, b => by simp [endsL]
  | d + 1, k, b => by
    show ((List.range k).flatMap fun i : Nat => endsL d (k - 1) (b ++ [(i : Int)])) = ((List.range k).flatMap fun i : Nat => endsL d (k - 1) ([] ++ [(i : Int)])).map (b ++ ·)
    rw [List.map_flatMap]
    refine congrArg (fun f => (List.range k).flatMap f) (funext fun i => ?_)
    rw [endsL_pre d (k - 1) (b ++ [(i : Int)]), endsL_pre d (k - 1) ([] ++ [(i : Int)]), List.map_map]
    refine List.map_congr_left fun l _ => ?_
    simp
theorem endsL_cons {d k : Nat} {l : List Int} (h : l ∈ endsL (d + 1) k []) : ∃ (i : Nat) (js : List Int), i < k ∧ l = (i : Int) :: js ∧ js ∈ endsL d (k - 1) [] := by
  obtain ⟨i, hi, h1⟩ := List.mem_flatMap.1 h
  rw [endsL_pre] at h1
  obtain ⟨js, h2, rfl⟩ := List.mem_map.1 h1
  exact ⟨i, js, List.mem_range.1 hi, rfl, h2⟩
theorem drw_row {n j : Int} {l : List Int} (h : 1 ≤ n ∧ n ≤ 1099511627776) (hj : 0 ≤ j ∧ j < n) : drw n (.inr (j :: l, false)) = ((j, 0), .inr (l, false)) := by
  rw [drw_inr, if_pos h, if_pos (show rowOk n (j :: l) false from ⟨rfl, by simp, hj.1, hj.2⟩)]
  rfl
def ordF : Nat → List Int → List Int → List Int
  | _, _, [] => []
  | i, l, j :: js => l.getD (i + j.toNat) 0 :: ordF (i + 1) (swp l i (i + j.toNat)) js
theorem ordF_len : ∀ (i : Nat) (l js : List Int), (ordF i l js).length = js.length
  | _, _, [] => rfl
  | i, l, j :: js => by simp [ordF, ordF_len]
theorem ordW_row (k : Nat) (hk : k ≤ 65536) : ∀ (m i : Nat) (l js : List Int), i + m ≤ k → js ∈ endsL m (k - i) [] → ordW k m i l (.inr (js, false)) = ((ordF i l js, 0), .inr ([], false))
  | 0, i, l, js, _, h => by
    have h : js ∈ [([] : List Int)] := h
    rw [List.mem_singleton.1 h]; rfl
  | m + 1, i, l, js, hm, h => by
    obtain ⟨j, js2, hj, rfl, h2⟩ := endsL_cons h
    have hd : drw ((k : Int) - i) (.inr ((j : Int) :: js2, false)) = (((j : Int), 0), .inr (js2, false)) := drw_row (by omega) (by omega)
    have ih := ordW_row k hk m (i + 1) (swp l i (i + j)) js2 (by omega) (by rwa [show k - (i + 1) = k - i - 1 by omega])
    unfold ordW
    rw [hd]
    simp only [Int.toNat_natCast, if_true]
    rw [ih]
    rfl
theorem setW_row {tot : Int} {cut oth : List Int} {k c x : Nat} {js : List Int} (hk : rwE tot cut oth k = 0) (hc : c < cut.length) (hx : x < tot.toNat) (hj : js ∈ endsL (alPick tot cut oth c x + 1).toNat k []) :
    setW tot cut oth k (.inr ((c : Int) :: (x : Int) :: js, false)) = ((srt (ordF 0 (upto k) js), 0), (.inr ([], false), (js.length : Int) + 2)) := by
  obtain ⟨hE, k1, k2, k3⟩ := rwE_ok hk
  have hb := alE_bnd hE
  have hin := alPick_in hE (c := c) (l := x) (by omega)
  have hjl := endsL_mem _ _ _ _ hj
  have d1 : drw cut.length (.inr ((c : Int) :: (x : Int) :: js, false)) = (((c : Int), 0), .inr ((x : Int) :: js, false)) := drw_row (by omega) (by omega)
  have d2 : drw tot (.inr ((x : Int) :: js, false)) = (((x : Int), 0), .inr (js, false)) := drw_row (by omega) (by omega)
  have hp : plcW tot cut oth (.inr ((c : Int) :: (x : Int) :: js, false)) = ((alPick tot cut oth c x, 0), (.inr (js, false), 2)) := by
    unfold plcW
    rw [d1]
    simp only [if_true]
    rw [d2]
    simp
  obtain ⟨d, hd⟩ : ∃ d : Nat, alPick tot cut oth c x + 1 = d := ⟨(alPick tot cut oth c x + 1).toNat, by omega⟩
  rw [hd] at hj hjl
  rw [Int.toNat_natCast] at hj hjl
  have ho : ordO k (alPick tot cut oth c x + 1) (.inr (js, false)) = ((ordF 0 (upto k) js, 0), (.inr ([], false), (js.length : Int))) := by
    rw [hd]
    unfold ordO
    rw [if_pos (show Sized k d by unfold Sized; omega), Int.toNat_natCast, Int.toNat_natCast, ordW_row k (by omega) d 0 (upto k) js (by omega) hj]
    simp [ordF_len]
  unfold setW
  rw [if_pos hk, hp]
  simp only [if_true]
  unfold pickO
  rw [ho]
  simp only [Prod.mk.injEq, true_and]
  omega
theorem allL_row {tot : Int} {cut oth : List Int} {k : Nat} {l : List Int} (h : l ∈ allL tot cut oth k) : ∃ (c x : Nat) (js : List Int), c < cut.length ∧ x < tot.toNat ∧ js ∈ endsL (alPick tot cut oth c x + 1).toNat k [] ∧ l = (c : Int) :: (x : Int) :: js := by
  obtain ⟨c, hc, h1⟩ := List.mem_flatMap.1 h
  obtain ⟨x, hx, h2⟩ := List.mem_flatMap.1 h1
  have h3 : l ∈ endsL (alPick tot cut oth c x + 1).toNat k [(c : Int), (x : Int)] := h2
  rw [endsL_pre] at h3
  obtain ⟨js, h4, rfl⟩ := List.mem_map.1 h3
  exact ⟨c, x, js, List.mem_range.1 hc, List.mem_range.1 hx, h4, rfl⟩
theorem sum_fm {α : Type} (w : α → Nat) (f : Nat → List α) (m : Nat) : ∀ (k : Nat), (∀ i, i < k → ((f i).map w).sum = m) → (((List.range k).flatMap f).map w).sum = k * m
  | 0, _ => by simp
  | k + 1, h => by
    rw [fm_succ, List.map_append, List.sum_append, sum_fm w f m k (fun i hi => h i (by omega)), h k (by omega), Nat.succ_mul]
theorem fm_leC {α : Type} (f : Nat → List α) (m : Nat) : ∀ (k : Nat), (∀ i, i < k → (f i).length ≤ m) → ((List.range k).flatMap f).length ≤ k * m
  | 0, _ => by simp
  | k + 1, h => by
    rw [fm_len, Nat.succ_mul]; have := fm_leC f m k (fun i hi => h i (by omega)); have := h k (by omega); omega
theorem fall24 : ∀ k, k ≤ 4 → ∀ d, d ≤ k → fall k d ≠ 0 ∧ fall k d ≤ 24 ∧ fall k d * (24 / fall k d) = 24 := by decide
def wt (k : Nat) (l : List Int) : Nat := 24 / fall k (l.length - 2)
theorem all_le {tot : Int} {cut oth : List Int} {k : Nat} (hE : alE tot cut oth = 0) (hk : cut.length ≤ k ∧ k ≤ 4) : (allL tot cut oth k).length ≤ cut.length * (tot.toNat * 24) := by
  unfold allL
  refine fm_leC _ _ _ fun c hc => ?_
  unfold colL
  refine fm_leC _ _ _ fun x _ => ?_
  unfold lvlL
  rw [endsL_len]
  have hin := alPick_in hE (c := c) (l := x) (by omega)
  exact (fall24 k hk.2 _ (by omega)).2.1
theorem mk_add (a b D : Nat) (hD : D ≠ 0) : mkRat (a : Int) D + mkRat (b : Int) D = mkRat ((a + b : Nat) : Int) D := by
  rw [Rat.mkRat_add_mkRat _ _ hD hD, Rat.mkRat_eq_iff (Nat.mul_ne_zero hD hD) hD]
  push_cast
  grind
theorem mk_scale (a D m : Nat) (hD : D ≠ 0) (hm : m ≠ 0) : mkRat (a : Int) D = mkRat ((a * m : Nat) : Int) (D * m) := by
  rw [Rat.mkRat_eq_iff hD (Nat.mul_ne_zero hD hm)]
  push_cast
  grind
theorem mea_wt {n T k d : Nat} (hn : n ≠ 0) (hT : T ≠ 0) (hk : k ≤ 4) (hd : d ≤ k) : mkRat 1 (fall k d * n * T) = mkRat ((24 / fall k d : Nat) : Int) (n * (T * 24)) := by
  obtain ⟨h1, h2, h3⟩ := fall24 k hk d hd
  have h4 : 24 / fall k d ≠ 0 := fun h => by rw [h, Nat.mul_zero] at h3; cases h3
  have := mk_scale 1 (fall k d * n * T) (24 / fall k d) (Nat.mul_ne_zero (Nat.mul_ne_zero h1 hn) hT) h4
  rw [Nat.one_mul] at this
  rw [show (1 : Int) = ((1 : Nat) : Int) from rfl, this]
  congr 1
  rw [show n * (T * 24) = n * T * 24 by rw [Nat.mul_assoc], ← h3]
  grind
end Go.Art
set_option linter.unusedSimpArgs false
set_option linter.unusedVariables false
namespace Go.Art
open Go Go.Proofs Go.RowKit
attribute [local irreducible] Fit pt own ro vw mpc lpt vels rels mow lrc dfr
attribute [local irreducible] lmp lme mit velg relg

def plcR (tot : Int) (cut oth : List Int) (st : BitVec 64) : Int × BitVec 64 :=
  (alPick tot cut oth (sdraw cut.length st).1 (sdraw tot.toNat (sdraw cut.length st).2).1, (sdraw tot.toNat (sdraw cut.length st).2).2)
def setR (tot : Int) (cut oth : List Int) (k : Int) (st : BitVec 64) : List Int × Int := pickR k ((plcR tot cut oth st).1 + 1) (plcR tot cut oth st).2
end Go.Art
set_option linter.unusedSimpArgs false
set_option linter.unusedVariables false
namespace Go.Art
open Go Go.Proofs Go.RowKit

def par (j : Nat) : Nat := (j - 1) / 2
structure HpUp (l : List Int) (i : Nat) : Prop where
  a : ∀ j, 0 < j → j < l.length → j ≠ i → l.getD (par j) 0 ≤ l.getD j 0
  b : ∀ j, 0 < j → j < l.length → par j = i → 0 < i → l.getD (par i) 0 ≤ l.getD j 0
structure HpDn (l : List Int) (i : Nat) : Prop where
  a : ∀ j, 0 < j → j < l.length → par j ≠ i → l.getD (par j) 0 ≤ l.getD j 0
  b : ∀ j, 0 < j → j < l.length → par j = i → 0 < i → l.getD (par i) 0 ≤ l.getD j 0
def Heap (l : List Int) : Prop := ∀ j, 0 < j → j < l.length → l.getD (par j) 0 ≤ l.getD j 0
theorem par_lt {j : Nat} (h : 0 < j) : par j < j := by unfold par; omega
theorem Heap.head {l : List Int} (h : Heap l) : ∀ j, j < l.length → l.getD 0 0 ≤ l.getD j 0 := fun j => by
  induction j using Nat.strongRecOn with
  | ind j ih =>
    intro hj
    by_cases h0 : j = 0
    · subst h0; exact Int.le_refl _
    · have h1 := par_lt (j := j) (by omega)
      exact Int.le_trans (ih _ h1 (by omega)) (h j (by omega) hj)
def swq (l : List Int) (i j : Nat) : List Int := (l.set i (l.getD j 0)).set j (l.getD i 0)
theorem swq_len (l : List Int) (i j : Nat) : (swq l i j).length = l.length := by simp [swq]
theorem swq_get (l : List Int) {i j : Nat} (hi : i < l.length) (hj : j < l.length) (t : Nat) : (swq l i j).getD t 0 = if t = i then l.getD j 0 else if t = j then l.getD i 0 else l.getD t 0 := by
  unfold swq
  rw [getD_set _ _ _ _ (by simpa using hj), getD_set _ _ _ _ hi]
  by_cases h1 : t = i
  · subst h1
    rw [if_pos rfl, if_pos rfl]
    by_cases h2 : j = t
    · subst h2; rw [if_pos rfl]
    · rw [if_neg h2]
  · rw [if_neg h1, if_neg (Ne.symm h1)]
    by_cases h2 : t = j
    · subst h2; rw [if_pos rfl]
    · rw [if_neg h2, if_neg (Ne.symm h2)]
theorem swq_perm (l : List Int) {i j : Nat} (hi : i < l.length) (hj : j < l.length) : (swq l i j).Perm l := by
  have e1 : l.getD j 0 = l[j] := by simp [List.getD_eq_getElem?_getD, hj]
  have e2 : l.getD i 0 = l[i] := by simp [List.getD_eq_getElem?_getD, hi]
  unfold swq
  rw [e1, e2]
  exact List.set_set_perm hi hj
theorem HpUp.snoc {l : List Int} (h : Heap l) (x : Int) : HpUp (l ++ [x]) l.length := by
  refine ⟨fun j h0 hj hne => ?_, fun j h0 hj hp _ => ?_⟩
  · have h1 : j < l.length := by simp at hj; omega
    have h2 := par_lt h0
    rw [getD_snoc, getD_snoc, if_pos h1, if_pos (by omega)]
    exact h j h0 h1
  · have h2 := par_lt h0
    simp at hj; omega
theorem HpUp.stop {l : List Int} {i : Nat} (h : HpUp l i) (hs : i = 0 ∨ l.getD (par i) 0 ≤ l.getD i 0) : Heap l := fun j h0 hj => by
  by_cases e : j = i
  · subst e; rcases hs with hs | hs
    · omega
    · exact hs
  · exact h.a j h0 hj e
theorem HpUp.step {l : List Int} {i : Nat} (h : HpUp l i) (hi : 0 < i) (hil : i < l.length) (hs : ¬ l.getD (par i) 0 ≤ l.getD i 0) : HpUp (swq l (par i) i) (par i) := by
  have hp := par_lt hi
  have G := fun t => swq_get l (i := par i) (j := i) (by omega) hil t
  have hL := swq_len l (par i) i
  refine ⟨fun j h0 hj hne => ?_, fun j h0 hj hpj hpi => ?_⟩
  · rw [hL] at hj
    rw [G, G]
    have hjp := par_lt h0
    by_cases e1 : j = i
    · subst e1; rw [if_pos rfl, if_neg (by omega), if_pos rfl]; omega
    · rw [if_neg hne, if_neg e1]
      by_cases e2 : par j = i
      · rw [if_neg (by omega), if_pos e2]; exact h.b j h0 hj e2 hi
      · by_cases e3 : par j = par i
        · rw [if_pos e3]; have := h.a j h0 hj e1; rw [e3] at this; omega
        · rw [if_neg e3, if_neg e2]; exact h.a j h0 hj e1
  · rw [hL] at hj
    rw [G, G]
    have hjp := par_lt h0
    have hpp := par_lt hpi
    rw [if_neg (by omega), if_neg (by omega)]
    have h1 := h.a (par i) hpi (by omega) (by omega)
    by_cases e1 : j = i
    · subst e1; rw [if_neg (by omega), if_pos rfl]; exact h1
    · rw [if_neg (by omega), if_neg e1]
      have := h.a j h0 hj e1
      rw [hpj] at this; omega
theorem HpDn.stop {l : List Int} {i : Nat} (h : HpDn l i) (h1 : 2 * i + 1 < l.length → l.getD i 0 ≤ l.getD (2 * i + 1) 0) (h2 : 2 * i + 2 < l.length → l.getD i 0 ≤ l.getD (2 * i + 2) 0) : Heap l := fun j h0 hj => by
  by_cases e : par j = i
  · have : j = 2 * i + 1 ∨ j = 2 * i + 2 := by unfold par at e; omega
    rw [e]
    rcases this with rfl | rfl
    · exact h1 hj
    · exact h2 hj
  · exact h.a j h0 hj e
theorem HpDn.step {l : List Int} {i c : Nat} (h : HpDn l i) (hc : c = 2 * i + 1 ∨ c = 2 * i + 2) (hcl : c < l.length) (hs : l.getD c 0 < l.getD i 0) (h1 : 2 * i + 1 < l.length → l.getD c 0 ≤ l.getD (2 * i + 1) 0) (h2 : 2 * i + 2 < l.length → l.getD c 0 ≤ l.getD (2 * i + 2) 0) : HpDn (swq l i c) c := by
  have hpc : par c = i := by unfold par; omega
  have hic : i < c := by omega
  have G := fun t => swq_get l (i := i) (j := c) (by omega) hcl t
  have hL := swq_len l i c
  refine ⟨fun j h0 hj hne => ?_, fun j h0 hj hpj hc0 => ?_⟩
  · rw [hL] at hj
    rw [G, G]
    have hjp := par_lt h0
    by_cases e1 : par j = i
    · rw [if_pos e1, if_neg (by omega)]
      by_cases e2 : j = c
      · rw [if_pos e2]; omega
      · rw [if_neg e2]
        have : j = 2 * i + 1 ∨ j = 2 * i + 2 := by unfold par at e1; omega
        rcases this with rfl | rfl
        · exact h1 hj
        · exact h2 hj
    · rw [if_neg e1, if_neg hne]
      by_cases e2 : j = i
      · subst e2; rw [if_pos rfl]; exact h.b c (by omega) hcl hpc h0
      · rw [if_neg e2, if_neg (fun e => e1 (by rw [e]; exact hpc))]; exact h.a j h0 hj e1
  · rw [hL] at hj
    rw [G, G, hpc, if_pos rfl]
    have hjp := par_lt h0
    rw [if_neg (by omega), if_neg (by omega)]
    have := h.a j h0 hj (by omega)
    rw [hpj] at this; exact this
end Go.Art
set_option linter.unusedSimpArgs false
set_option linter.unusedVariables false
namespace Go.Art
open Go Go.Proofs Go.RowKit
attribute [local irreducible] Fit pt own ro vw mpc lpt vels rels mow lrc dfr
attribute [local irreducible] lmp lme mit velg relg

section
variable {P : Program} {E : Env P} {n : Sh} {X : Cx} {s : List K} {fr : Fr} {A : List Ch} {ops : Array Oper} {d : Nat} {ty t el : TypeId} {pos : String} {after : Array Edge} {v z : Value} {fuel by_ : Nat} {listed : Array Bool} {S : World → Prop} {x y : Operand} {k1 : IntKind}
theorem tkx (i : Nat) {m : Int} {len : Nat} (hS : ∀ w, S w → ∃ xs, Sl w v xs ∧ xs.length = len) (k : TS E n X s S ops fuel (listed.setIfInBounds i true) ((d, .pointer (some (addrAt v m.toNat))) :: fr) A) (hi : ops[i]? = some ⟨some d, .indexAddr t x y, ty, pos, after, none⟩ := by rfl)
    (hx : ev fr x = some v := by rfl) (hy : ev fr y = some (.int k1 m) := by rfl) (hb : 0 ≤ m ∧ m < len := by omega) (ht : lk E.und t = some (.slice el) := by rfl) (he : lk E.inf el = some (z, 1, by_) := by rfl)
    (hs : Region.noSelect ops = true := by kernel_rfl) (hf : Region.free .any ops listed i = true := by kernel_rfl) (hr : (Region.ready .any ops listed).contains i = true := by kernel_rfl) (hrd : n.r = none := by rfl) (hd : Nat.blt d n.n = true := by rfl) : TS E n X s S ops (fuel + 1) listed fr A :=
  tk i (fun w hw => by obtain ⟨xs, h1, h2⟩ := hS w hw; exact R_idx ht he hx hy h1 (by omega)) k hi hs hf hr hrd hd
theorem tkli (i : Nat) {l : List Int} {j : Nat} {c : Int} {dt : TypeDesc} (hS : ∀ w, S w → Sl w v (Is l)) (hc : l.getD j 0 = c) (k : TS E n X s S ops fuel (listed.setIfInBounds i true) ((d, I c) :: fr) A) (hi : ops[i]? = some ⟨some d, .load t x, ty, pos, after, none⟩ := by rfl)
    (hx : ev fr x = some (.pointer (some (addrAt v j))) := by rfl) (hj : j < l.length := by omega) (ht : lk E.und t = some dt := by rfl) (hg : aggB dt = false := by rfl)
    (hs : Region.noSelect ops = true := by kernel_rfl) (hf : Region.free .any ops listed i = true := by kernel_rfl) (hr : (Region.ready .any ops listed).contains i = true := by kernel_rfl) (hrd : n.r = none := by rfl) (hd : Nat.blt d n.n = true := by rfl) : TS E n X s S ops (fuel + 1) listed fr A :=
  tk i (fun w hw => by subst hc; exact R_load ht hg hx ((hS w hw).geti hj)) k hi hs hf hr hrd hd
end
section
variable {P : Program} {E : Env P} {n : Sh} {X : Cx} {s : List K} {fr : Fr} {A : List Ch} {ops : Array Oper} {rest : List Oper} {d : Nat} {ty t t' : TypeId} {pos : String} {after : Array Edge} {x y : Operand} {m q : Int}
theorem adve {c : Int} (he : m / q = c) (k : TO E n X s ops rest ((d, I c) :: fr) A) (hx : ev fr x = some (I m) := by rfl) (hy : ev fr y = some (I q) := by rfl) (hb : 0 ≤ m ∧ m ≤ 9223372036854775807 ∧ 1 ≤ q := by omega) (hd : Nat.blt d n.n = true := by rfl) :
    TO E n X s ops (⟨some d, .binOp .quo t x y t', ty, pos, after, none⟩ :: rest) fr A := adiv (by rw [he]; exact k) hx hy hb hd
end
section
variable {P : Program} {E : Env P} {n : Sh} {X : Cx} {s : List K} {fr : Fr} {A : List Ch} {ops : Array Oper} {rest : List Oper} {d : Nat} {ty t : TypeId} {pos : String} {after : Array Edge} {v : Value} {x : Operand}
theorem qlie {l : List Int} {j : Nat} {c : Int} {dt : TypeDesc} (he : l.getD j 0 = c) (k : TQ E n X s ops rest ((d, I c) :: fr) A) (hx : ev fr x = some (.pointer (some (addrAt v j))) := by rfl) (hh : Has A (vw v (Is l)) := by first | (apply has_vw; (repeat (first | apply List.Mem.head | apply List.Mem.tail)); first | done | fail) | (apply has_own; (repeat (first | apply List.Mem.head | apply List.Mem.tail)); first | done | fail) | (apply has_ro; (repeat (first | apply List.Mem.head | apply List.Mem.tail)); first | done | fail) | apply has_nil | ((with_reducible apply has_el); (focus (first | (apply has_vels; (repeat (first | apply List.Mem.head | apply List.Mem.tail)); first | done | fail) | (apply has_rels; (repeat (first | apply List.Mem.head | apply List.Mem.tail)); first | done | fail))); omega) | (apply has_pt; (repeat (first | apply List.Mem.head | apply List.Mem.tail)); first | done | fail) | (apply has_lpt; (repeat (first | apply List.Mem.head | apply List.Mem.tail)); first | done | fail) | (apply has_vels; (repeat (first | apply List.Mem.head | apply List.Mem.tail)); first | done | fail) | (apply has_rels; (repeat (first | apply List.Mem.head | apply List.Mem.tail)); first | done | fail) | with_reducible assumption | ((with_reducible apply has_elg); (focus (first | (apply has_velg; (repeat (first | apply List.Mem.head | apply List.Mem.tail)); first | done | fail) | (apply has_relg; (repeat (first | apply List.Mem.head | apply List.Mem.tail)); first | done | fail))); omega) | (apply has_velg; (repeat (first | apply List.Mem.head | apply List.Mem.tail)); first | done | fail) | (apply has_relg; (repeat (first | apply List.Mem.head | apply List.Mem.tail)); first | done | fail) | (apply has_vwf; (repeat (first | apply List.Mem.head | apply List.Mem.tail)); first | done | fail) | (apply has_oww; (repeat (first | apply List.Mem.head | apply List.Mem.tail)); first | done | fail)) (hj : j < l.length := by omega)
    (ht : lk E.und t = some dt := by rfl) (hg : aggB dt = false := by rfl) (hd : Nat.blt d n.n = true := by rfl) : TQ E n X s ops (⟨some d, .load t x, ty, pos, after, none⟩ :: rest) fr A := qli (l := l) (by rw [he]; exact k) hx hh hj ht hg hd
end
theorem b2 (a b : Int) (w : World) : (Instr.build 160 #[(0, I a), (1, I b)]).run Tryz.prog w = .ok (.agg #[I a, I b]) w := run_build w 160 #[(0, I a), (1, I b)] #[I a, I b] (by kernel_rfl)
theorem i20 (a b : Int) (w : World) : (Instr.index 160 (.agg #[I a, I b]) (I 0)).run Tryz.prog w = .ok (I a) w := by kernel_rfl
theorem i21 (a b : Int) (w : World) : (Instr.index 160 (.agg #[I a, I b]) (I 1)).run Tryz.prog w = .ok (I b) w := by kernel_rfl
section
variable {n : Sh} {X : Cx} {s : List K} {fr : Fr} {A : List Ch} {ops : Array Oper} {rest : List Oper} {d : Nat} {ty : TypeId} {pos : String} {after : Array Edge} {x y : Operand} {a b : Int} {parts : List (Nat × Operand)}
theorem bd2 (k : TO env n X s ops rest ((d, .agg #[I a, I b]) :: fr) A) (hv : evps fr parts = some [(0, I a), (1, I b)] := by rfl) (hd : Nat.blt d n.n = true := by rfl) : TO env n X s ops (⟨some d, .build 160 parts.toArray, ty, pos, after, none⟩ :: rest) fr A :=
  TO.val (fun w _ => ⟨fun c hc _ _ _ _ => by
    have h1 := hc.evps hv
    have h2 := b2 a b w
    simp only [execOp]
    simp [h1, h2]⟩) k hd
theorem ix0 (k : TO env n X s ops rest ((d, I a) :: fr) A) (hx : ev fr x = some (.agg #[I a, I b]) := by rfl) (hy : ev fr y = some (I 0) := by rfl) (hd : Nat.blt d n.n = true := by rfl) : TO env n X s ops (⟨some d, .index 160 x y, ty, pos, after, none⟩ :: rest) fr A :=
  TO.val (fun w _ => ⟨fun c hc _ _ _ _ => by
    have h2 := i20 a b w
    simp only [execOp, hc.ev hx, hc.ev hy]
    simp [h2]⟩) k hd
theorem ix1 (k : TO env n X s ops rest ((d, I b) :: fr) A) (hx : ev fr x = some (.agg #[I a, I b]) := by rfl) (hy : ev fr y = some (I 1) := by rfl) (hd : Nat.blt d n.n = true := by rfl) : TO env n X s ops (⟨some d, .index 160 x y, ty, pos, after, none⟩ :: rest) fr A :=
  TO.val (fun w _ => ⟨fun c hc _ _ _ _ => by
    have h2 := i21 a b w
    simp only [execOp, hc.ev hx, hc.ev hy]
    simp [h2]⟩) k hd
end
abbrev THp : TypeId := 139
theorem push_tr (ph : Nat) (hv : Value) (h : List Int) (x : Int) (hh : Heap h) (hl : h.length ≤ 65536) : Tr Tryz.prog 112 [ptr ph, I x] [] [pt ph [hv] THp, own 3 hv (Is h)]
    fun _ D => ∃ hv' h', D = [pt ph [hv'] THp, own 3 hv' (Is h')] ∧ Heap h' ∧ h'.Perm (x :: h) := by
  refine Tr.enter env _ Tryz.func112 (by kernel_rfl) rfl Tryz.ntmps112 rfl (by repeat (first | exact has00 | refine has01 ?_)) fun w0 => ?_
  repeat' first|refine slii [x] fun v1 => ?_|(refine wo ?_; first|refine oa ?_|refine ld ?_)|refine sq ?_|refine rg ?_
  refine api (v := hv) (l := h) (news := [x]) fun v2 => ?_
  refine TO.one (v := v2) (xs := Is (h ++ [x])) fun hv2 => ?_
  have hln : (h ++ [x]).length = h.length + 1 := by simp
  have hpm : (h ++ [x]).Perm (x :: h) := List.perm_append_comm (l₁ := h) (l₂ := [x])
  have hup := HpUp.snoc hh x
  repeat' first|(refine wo ?_; first|(refine ao ?_; first|refine aw ?_)|refine oa ?_|refine ld ?_|refine lnm ?_|refine sr ?_)|refine sq ?_|refine rg ?_|refine xc ?_|refine nl ?_|refine bk ?_
  generalize hL : h ++ [x] = L at *
  have hi0 : h.length < L.length := by omega
  clear hL hl
  refine TC.loop (ι := Nat × List Int) (fun i => [(4, I i.1)]) (fun i => [own 3 v2 (Is i.2)]) (fun i => i.1 < i.2.length ∧ i.2.length = L.length ∧ HpUp i.2 i.1 ∧ i.2.Perm (x :: h)) (fun i => i.1) (h.length, L) [0] ⟨hi0, rfl, hup, hpm⟩ ?_ (hs := by dsimp only; rw [show ((h.length : Nat) : Int) = (L.length : Int) - 1 by omega]; (repeat (refine Sub.cons rfl (by first | rfl | go_num) ?_)); exact Sub.nil)
  clear hup hpm hi0
  rintro ⟨i, l⟩ ⟨hi, hlen, hup, hpm⟩
  dsimp only at hi hlen hup hpm ⊢
  refine TC.leni (l := l) fun hll => ?_
  by_cases h0 : 0 < i
  · have hpar : ((i : Int) - 1) / 2 = ((par i : Nat) : Int) := by unfold par; omega
    have hpl := par_lt h0
    generalize hb : l.getD (par i) 0 = lb at *
    generalize ha : l.getD i 0 = la at *
    repeat' first|refine rs (id := 5) (fun w => w.heap[ph]? = some (.cells #[v2] THp (0, 0)) ∧ ∃ xs, Sl w v2 xs ∧ xs.length = l.length) ?_ (fun w hw => ⟨pt_at (by (repeat (first | apply List.Mem.head | apply List.Mem.tail)); first | done | fail) hw, _, has_sl hw (by first | (apply has_vw; (repeat (first | apply List.Mem.head | apply List.Mem.tail)); first | done | fail) | (apply has_own; (repeat (first | apply List.Mem.head | apply List.Mem.tail)); first | done | fail) | (apply has_ro; (repeat (first | apply List.Mem.head | apply List.Mem.tail)); first | done | fail) | apply has_nil | ((with_reducible apply has_el); (focus (first | (apply has_vels; (repeat (first | apply List.Mem.head | apply List.Mem.tail)); first | done | fail) | (apply has_rels; (repeat (first | apply List.Mem.head | apply List.Mem.tail)); first | done | fail))); omega) | (apply has_pt; (repeat (first | apply List.Mem.head | apply List.Mem.tail)); first | done | fail) | (apply has_lpt; (repeat (first | apply List.Mem.head | apply List.Mem.tail)); first | done | fail) | (apply has_vels; (repeat (first | apply List.Mem.head | apply List.Mem.tail)); first | done | fail) | (apply has_rels; (repeat (first | apply List.Mem.head | apply List.Mem.tail)); first | done | fail) | with_reducible assumption | ((with_reducible apply has_elg); (focus (first | (apply has_velg; (repeat (first | apply List.Mem.head | apply List.Mem.tail)); first | done | fail) | (apply has_relg; (repeat (first | apply List.Mem.head | apply List.Mem.tail)); first | done | fail))); omega) | (apply has_velg; (repeat (first | apply List.Mem.head | apply List.Mem.tail)); first | done | fail) | (apply has_relg; (repeat (first | apply List.Mem.head | apply List.Mem.tail)); first | done | fail) | (apply has_vwf; (repeat (first | apply List.Mem.head | apply List.Mem.tail)); first | done | fail) | (apply has_oww; (repeat (first | apply List.Mem.head | apply List.Mem.tail)); first | done | fail)), Is_len l⟩)|refine adve hpar ?_|(refine qlie ha ?_)|(refine qlie hb ?_)|(refine wo ?_; first|(refine ao ?_; first|refine aw ?_|refine oa ?_)|refine oa ?_)|(refine gc ?_; first|(refine ci (fun hB => ?_) (fun hB => ?_) <;> try (exfalso; omega)))|refine sq ?_|refine rg ?_|refine xc ?_|refine nl ?_|refine sk ?_|refine bk ?_|refine rt ?_|refine rq ?_|refine nq ?_|(refine wq ?_; first|(refine qao ?_; first|refine qa ?_)|refine qa ?_|refine qld ?_|refine qixmn ?_)
    · exact r0 ⟨v2, l, rfl, hup.stop (.inr (by omega)), hpm⟩
    refine tka 0 ?_
    refine tka 1 ?_
    refine tkl 2 (cs := [v2]) (fun w h => h.1) ?_
    refine tka 3 ?_
    refine tka 4 ?_
    refine tka 5 ?_
    refine tkl 6 (cs := [v2]) (fun w h => h.1) ?_
    refine tka 7 ?_
    refine tka 8 ?_
    refine tka 9 ?_
    refine tkl 10 (cs := [v2]) (fun w h => h.1) ?_
    refine tka 11 ?_
    refine tkx 12 (len := l.length) (fun w h => h.2) ?_
    refine tka 14 ?_
    refine tka 15 ?_
    refine tkl 16 (cs := [v2]) (fun w h => h.1) ?_
    refine tka 17 ?_
    refine tkx 18 (len := l.length) (fun w h => h.2) ?_
    refine t2 13 19 ?_ ?_
    · refine lie ha ?_
      repeat' first|refine nl ?_
      refine te (fun w hw => ⟨pt_at (by (repeat (first | apply List.Mem.head | apply List.Mem.tail)); first | done | fail) hw, _, has_sl hw (by first | (apply has_vw; (repeat (first | apply List.Mem.head | apply List.Mem.tail)); first | done | fail) | (apply has_own; (repeat (first | apply List.Mem.head | apply List.Mem.tail)); first | done | fail) | (apply has_ro; (repeat (first | apply List.Mem.head | apply List.Mem.tail)); first | done | fail) | apply has_nil | ((with_reducible apply has_el); (focus (first | (apply has_vels; (repeat (first | apply List.Mem.head | apply List.Mem.tail)); first | done | fail) | (apply has_rels; (repeat (first | apply List.Mem.head | apply List.Mem.tail)); first | done | fail))); omega) | (apply has_pt; (repeat (first | apply List.Mem.head | apply List.Mem.tail)); first | done | fail) | (apply has_lpt; (repeat (first | apply List.Mem.head | apply List.Mem.tail)); first | done | fail) | (apply has_vels; (repeat (first | apply List.Mem.head | apply List.Mem.tail)); first | done | fail) | (apply has_rels; (repeat (first | apply List.Mem.head | apply List.Mem.tail)); first | done | fail) | with_reducible assumption | ((with_reducible apply has_elg); (focus (first | (apply has_velg; (repeat (first | apply List.Mem.head | apply List.Mem.tail)); first | done | fail) | (apply has_relg; (repeat (first | apply List.Mem.head | apply List.Mem.tail)); first | done | fail))); omega) | (apply has_velg; (repeat (first | apply List.Mem.head | apply List.Mem.tail)); first | done | fail) | (apply has_relg; (repeat (first | apply List.Mem.head | apply List.Mem.tail)); first | done | fail) | (apply has_vwf; (repeat (first | apply List.Mem.head | apply List.Mem.tail)); first | done | fail) | (apply has_oww; (repeat (first | apply List.Mem.head | apply List.Mem.tail)); first | done | fail)), Is_len l⟩) ?_
      refine t1 19 ?_
      refine lie hb ?_
      repeat' first|refine nl ?_
      refine te (fun w hw => ⟨pt_at (by (repeat (first | apply List.Mem.head | apply List.Mem.tail)); first | done | fail) hw, _, has_sl hw (by first | (apply has_vw; (repeat (first | apply List.Mem.head | apply List.Mem.tail)); first | done | fail) | (apply has_own; (repeat (first | apply List.Mem.head | apply List.Mem.tail)); first | done | fail) | (apply has_ro; (repeat (first | apply List.Mem.head | apply List.Mem.tail)); first | done | fail) | apply has_nil | ((with_reducible apply has_el); (focus (first | (apply has_vels; (repeat (first | apply List.Mem.head | apply List.Mem.tail)); first | done | fail) | (apply has_rels; (repeat (first | apply List.Mem.head | apply List.Mem.tail)); first | done | fail))); omega) | (apply has_pt; (repeat (first | apply List.Mem.head | apply List.Mem.tail)); first | done | fail) | (apply has_lpt; (repeat (first | apply List.Mem.head | apply List.Mem.tail)); first | done | fail) | (apply has_vels; (repeat (first | apply List.Mem.head | apply List.Mem.tail)); first | done | fail) | (apply has_rels; (repeat (first | apply List.Mem.head | apply List.Mem.tail)); first | done | fail) | with_reducible assumption | ((with_reducible apply has_elg); (focus (first | (apply has_velg; (repeat (first | apply List.Mem.head | apply List.Mem.tail)); first | done | fail) | (apply has_relg; (repeat (first | apply List.Mem.head | apply List.Mem.tail)); first | done | fail))); omega) | (apply has_velg; (repeat (first | apply List.Mem.head | apply List.Mem.tail)); first | done | fail) | (apply has_relg; (repeat (first | apply List.Mem.head | apply List.Mem.tail)); first | done | fail) | (apply has_vwf; (repeat (first | apply List.Mem.head | apply List.Mem.tail)); first | done | fail) | (apply has_oww; (repeat (first | apply List.Mem.head | apply List.Mem.tail)); first | done | fail)), Is_len l⟩) ?_
      refine tkx 20 (len := l.length) (fun w h => h.2) ?_
      refine t1 21 ?_
      refine soi (m := la) (l := l) (j := par i) ?_
      repeat' first|refine nl ?_
      refine te (fun w hw => ⟨pt_at (by (repeat (first | apply List.Mem.head | apply List.Mem.tail)); first | done | fail) hw, _, has_sl hw (by first | (apply has_vw; (repeat (first | apply List.Mem.head | apply List.Mem.tail)); first | done | fail) | (apply has_own; (repeat (first | apply List.Mem.head | apply List.Mem.tail)); first | done | fail) | (apply has_ro; (repeat (first | apply List.Mem.head | apply List.Mem.tail)); first | done | fail) | apply has_nil | ((with_reducible apply has_el); (focus (first | (apply has_vels; (repeat (first | apply List.Mem.head | apply List.Mem.tail)); first | done | fail) | (apply has_rels; (repeat (first | apply List.Mem.head | apply List.Mem.tail)); first | done | fail))); omega) | (apply has_pt; (repeat (first | apply List.Mem.head | apply List.Mem.tail)); first | done | fail) | (apply has_lpt; (repeat (first | apply List.Mem.head | apply List.Mem.tail)); first | done | fail) | (apply has_vels; (repeat (first | apply List.Mem.head | apply List.Mem.tail)); first | done | fail) | (apply has_rels; (repeat (first | apply List.Mem.head | apply List.Mem.tail)); first | done | fail) | with_reducible assumption | ((with_reducible apply has_elg); (focus (first | (apply has_velg; (repeat (first | apply List.Mem.head | apply List.Mem.tail)); first | done | fail) | (apply has_relg; (repeat (first | apply List.Mem.head | apply List.Mem.tail)); first | done | fail))); omega) | (apply has_velg; (repeat (first | apply List.Mem.head | apply List.Mem.tail)); first | done | fail) | (apply has_relg; (repeat (first | apply List.Mem.head | apply List.Mem.tail)); first | done | fail) | (apply has_vwf; (repeat (first | apply List.Mem.head | apply List.Mem.tail)); first | done | fail) | (apply has_oww; (repeat (first | apply List.Mem.head | apply List.Mem.tail)); first | done | fail)), by rw [Is_len, List.length_set]⟩) ?_
      refine tkx 22 (len := l.length) (fun w h => h.2) ?_
      refine t1 23 ?_
      refine soi (m := lb) (l := l.set (par i) la) (j := i) ?_ (hj := by rw [List.length_set]; exact hi)
      repeat' first|refine nl ?_
      refine te (fun w hw => ⟨pt_at (by (repeat (first | apply List.Mem.head | apply List.Mem.tail)); first | done | fail) hw, _, has_sl hw (by first | (apply has_vw; (repeat (first | apply List.Mem.head | apply List.Mem.tail)); first | done | fail) | (apply has_own; (repeat (first | apply List.Mem.head | apply List.Mem.tail)); first | done | fail) | (apply has_ro; (repeat (first | apply List.Mem.head | apply List.Mem.tail)); first | done | fail) | apply has_nil | ((with_reducible apply has_el); (focus (first | (apply has_vels; (repeat (first | apply List.Mem.head | apply List.Mem.tail)); first | done | fail) | (apply has_rels; (repeat (first | apply List.Mem.head | apply List.Mem.tail)); first | done | fail))); omega) | (apply has_pt; (repeat (first | apply List.Mem.head | apply List.Mem.tail)); first | done | fail) | (apply has_lpt; (repeat (first | apply List.Mem.head | apply List.Mem.tail)); first | done | fail) | (apply has_vels; (repeat (first | apply List.Mem.head | apply List.Mem.tail)); first | done | fail) | (apply has_rels; (repeat (first | apply List.Mem.head | apply List.Mem.tail)); first | done | fail) | with_reducible assumption | ((with_reducible apply has_elg); (focus (first | (apply has_velg; (repeat (first | apply List.Mem.head | apply List.Mem.tail)); first | done | fail) | (apply has_relg; (repeat (first | apply List.Mem.head | apply List.Mem.tail)); first | done | fail))); omega) | (apply has_velg; (repeat (first | apply List.Mem.head | apply List.Mem.tail)); first | done | fail) | (apply has_relg; (repeat (first | apply List.Mem.head | apply List.Mem.tail)); first | done | fail) | (apply has_vwf; (repeat (first | apply List.Mem.head | apply List.Mem.tail)); first | done | fail) | (apply has_oww; (repeat (first | apply List.Mem.head | apply List.Mem.tail)); first | done | fail)), by rw [Is_len, List.length_set, List.length_set]⟩) ?_
      refine t0 ?_
      repeat' first|(refine wo ?_; first|refine oa ?_)|refine rg ?_|refine xc ?_|refine nl ?_|refine xb ?_
      exact lp (par i, swq l (par i) i) ⟨by dsimp only; rw [swq_len]; omega, by dsimp only; rw [swq_len]; exact hlen, hup.step h0 hi (by omega), (swq_perm l (by omega) hi).trans hpm⟩ (hf := by dsimp only; unfold swq; rw [ha, hb]; first | apply Fit.all | ((repeat (first | (apply Fit.nilN; (repeat (first | apply nrm_nil | apply nrm_cons)); try apply nrm_rfl) | (apply Fit.cons; focus ((repeat (first | apply Tk.here | apply Tk.there)); first | done | fail)))); first | done | fail)) (hlt := hpl)
    · refine lie hb ?_
      repeat' first|refine nl ?_
      refine te (fun w hw => ⟨pt_at (by (repeat (first | apply List.Mem.head | apply List.Mem.tail)); first | done | fail) hw, _, has_sl hw (by first | (apply has_vw; (repeat (first | apply List.Mem.head | apply List.Mem.tail)); first | done | fail) | (apply has_own; (repeat (first | apply List.Mem.head | apply List.Mem.tail)); first | done | fail) | (apply has_ro; (repeat (first | apply List.Mem.head | apply List.Mem.tail)); first | done | fail) | apply has_nil | ((with_reducible apply has_el); (focus (first | (apply has_vels; (repeat (first | apply List.Mem.head | apply List.Mem.tail)); first | done | fail) | (apply has_rels; (repeat (first | apply List.Mem.head | apply List.Mem.tail)); first | done | fail))); omega) | (apply has_pt; (repeat (first | apply List.Mem.head | apply List.Mem.tail)); first | done | fail) | (apply has_lpt; (repeat (first | apply List.Mem.head | apply List.Mem.tail)); first | done | fail) | (apply has_vels; (repeat (first | apply List.Mem.head | apply List.Mem.tail)); first | done | fail) | (apply has_rels; (repeat (first | apply List.Mem.head | apply List.Mem.tail)); first | done | fail) | with_reducible assumption | ((with_reducible apply has_elg); (focus (first | (apply has_velg; (repeat (first | apply List.Mem.head | apply List.Mem.tail)); first | done | fail) | (apply has_relg; (repeat (first | apply List.Mem.head | apply List.Mem.tail)); first | done | fail))); omega) | (apply has_velg; (repeat (first | apply List.Mem.head | apply List.Mem.tail)); first | done | fail) | (apply has_relg; (repeat (first | apply List.Mem.head | apply List.Mem.tail)); first | done | fail) | (apply has_vwf; (repeat (first | apply List.Mem.head | apply List.Mem.tail)); first | done | fail) | (apply has_oww; (repeat (first | apply List.Mem.head | apply List.Mem.tail)); first | done | fail)), Is_len l⟩) ?_
      refine t1 13 ?_
      refine lie ha ?_
      repeat' first|refine nl ?_
      refine te (fun w hw => ⟨pt_at (by (repeat (first | apply List.Mem.head | apply List.Mem.tail)); first | done | fail) hw, _, has_sl hw (by first | (apply has_vw; (repeat (first | apply List.Mem.head | apply List.Mem.tail)); first | done | fail) | (apply has_own; (repeat (first | apply List.Mem.head | apply List.Mem.tail)); first | done | fail) | (apply has_ro; (repeat (first | apply List.Mem.head | apply List.Mem.tail)); first | done | fail) | apply has_nil | ((with_reducible apply has_el); (focus (first | (apply has_vels; (repeat (first | apply List.Mem.head | apply List.Mem.tail)); first | done | fail) | (apply has_rels; (repeat (first | apply List.Mem.head | apply List.Mem.tail)); first | done | fail))); omega) | (apply has_pt; (repeat (first | apply List.Mem.head | apply List.Mem.tail)); first | done | fail) | (apply has_lpt; (repeat (first | apply List.Mem.head | apply List.Mem.tail)); first | done | fail) | (apply has_vels; (repeat (first | apply List.Mem.head | apply List.Mem.tail)); first | done | fail) | (apply has_rels; (repeat (first | apply List.Mem.head | apply List.Mem.tail)); first | done | fail) | with_reducible assumption | ((with_reducible apply has_elg); (focus (first | (apply has_velg; (repeat (first | apply List.Mem.head | apply List.Mem.tail)); first | done | fail) | (apply has_relg; (repeat (first | apply List.Mem.head | apply List.Mem.tail)); first | done | fail))); omega) | (apply has_velg; (repeat (first | apply List.Mem.head | apply List.Mem.tail)); first | done | fail) | (apply has_relg; (repeat (first | apply List.Mem.head | apply List.Mem.tail)); first | done | fail) | (apply has_vwf; (repeat (first | apply List.Mem.head | apply List.Mem.tail)); first | done | fail) | (apply has_oww; (repeat (first | apply List.Mem.head | apply List.Mem.tail)); first | done | fail)), Is_len l⟩) ?_
      refine tkx 20 (len := l.length) (fun w h => h.2) ?_
      refine t1 21 ?_
      refine soi (m := la) (l := l) (j := par i) ?_
      repeat' first|refine nl ?_
      refine te (fun w hw => ⟨pt_at (by (repeat (first | apply List.Mem.head | apply List.Mem.tail)); first | done | fail) hw, _, has_sl hw (by first | (apply has_vw; (repeat (first | apply List.Mem.head | apply List.Mem.tail)); first | done | fail) | (apply has_own; (repeat (first | apply List.Mem.head | apply List.Mem.tail)); first | done | fail) | (apply has_ro; (repeat (first | apply List.Mem.head | apply List.Mem.tail)); first | done | fail) | apply has_nil | ((with_reducible apply has_el); (focus (first | (apply has_vels; (repeat (first | apply List.Mem.head | apply List.Mem.tail)); first | done | fail) | (apply has_rels; (repeat (first | apply List.Mem.head | apply List.Mem.tail)); first | done | fail))); omega) | (apply has_pt; (repeat (first | apply List.Mem.head | apply List.Mem.tail)); first | done | fail) | (apply has_lpt; (repeat (first | apply List.Mem.head | apply List.Mem.tail)); first | done | fail) | (apply has_vels; (repeat (first | apply List.Mem.head | apply List.Mem.tail)); first | done | fail) | (apply has_rels; (repeat (first | apply List.Mem.head | apply List.Mem.tail)); first | done | fail) | with_reducible assumption | ((with_reducible apply has_elg); (focus (first | (apply has_velg; (repeat (first | apply List.Mem.head | apply List.Mem.tail)); first | done | fail) | (apply has_relg; (repeat (first | apply List.Mem.head | apply List.Mem.tail)); first | done | fail))); omega) | (apply has_velg; (repeat (first | apply List.Mem.head | apply List.Mem.tail)); first | done | fail) | (apply has_relg; (repeat (first | apply List.Mem.head | apply List.Mem.tail)); first | done | fail) | (apply has_vwf; (repeat (first | apply List.Mem.head | apply List.Mem.tail)); first | done | fail) | (apply has_oww; (repeat (first | apply List.Mem.head | apply List.Mem.tail)); first | done | fail)), by rw [Is_len, List.length_set]⟩) ?_
      refine tkx 22 (len := l.length) (fun w h => h.2) ?_
      refine t1 23 ?_
      refine soi (m := lb) (l := l.set (par i) la) (j := i) ?_ (hj := by rw [List.length_set]; exact hi)
      repeat' first|refine nl ?_
      refine te (fun w hw => ⟨pt_at (by (repeat (first | apply List.Mem.head | apply List.Mem.tail)); first | done | fail) hw, _, has_sl hw (by first | (apply has_vw; (repeat (first | apply List.Mem.head | apply List.Mem.tail)); first | done | fail) | (apply has_own; (repeat (first | apply List.Mem.head | apply List.Mem.tail)); first | done | fail) | (apply has_ro; (repeat (first | apply List.Mem.head | apply List.Mem.tail)); first | done | fail) | apply has_nil | ((with_reducible apply has_el); (focus (first | (apply has_vels; (repeat (first | apply List.Mem.head | apply List.Mem.tail)); first | done | fail) | (apply has_rels; (repeat (first | apply List.Mem.head | apply List.Mem.tail)); first | done | fail))); omega) | (apply has_pt; (repeat (first | apply List.Mem.head | apply List.Mem.tail)); first | done | fail) | (apply has_lpt; (repeat (first | apply List.Mem.head | apply List.Mem.tail)); first | done | fail) | (apply has_vels; (repeat (first | apply List.Mem.head | apply List.Mem.tail)); first | done | fail) | (apply has_rels; (repeat (first | apply List.Mem.head | apply List.Mem.tail)); first | done | fail) | with_reducible assumption | ((with_reducible apply has_elg); (focus (first | (apply has_velg; (repeat (first | apply List.Mem.head | apply List.Mem.tail)); first | done | fail) | (apply has_relg; (repeat (first | apply List.Mem.head | apply List.Mem.tail)); first | done | fail))); omega) | (apply has_velg; (repeat (first | apply List.Mem.head | apply List.Mem.tail)); first | done | fail) | (apply has_relg; (repeat (first | apply List.Mem.head | apply List.Mem.tail)); first | done | fail) | (apply has_vwf; (repeat (first | apply List.Mem.head | apply List.Mem.tail)); first | done | fail) | (apply has_oww; (repeat (first | apply List.Mem.head | apply List.Mem.tail)); first | done | fail)), by rw [Is_len, List.length_set, List.length_set]⟩) ?_
      refine t0 ?_
      repeat' first|(refine wo ?_; first|refine oa ?_)|refine rg ?_|refine xc ?_|refine nl ?_|refine xb ?_
      exact lp (par i, swq l (par i) i) ⟨by dsimp only; rw [swq_len]; omega, by dsimp only; rw [swq_len]; exact hlen, hup.step h0 hi (by omega), (swq_perm l (by omega) hi).trans hpm⟩ (hf := by dsimp only; unfold swq; rw [ha, hb]; first | apply Fit.all | ((repeat (first | (apply Fit.nilN; (repeat (first | apply nrm_nil | apply nrm_cons)); try apply nrm_rfl) | (apply Fit.cons; focus ((repeat (first | apply Tk.here | apply Tk.there)); first | done | fail)))); first | done | fail)) (hlt := hpl)
  · obtain rfl : i = 0 := by omega
    repeat' first|(refine wo ?_; first|(refine ao ?_; first|refine oa ?_)|refine oa ?_)|(refine gc ?_; first|refine cf ?_)|refine sq ?_|refine rg ?_|refine xc ?_|refine nl ?_|refine xe ?_
    exact e0 ⟨v2, l, rfl, hup.stop (.inl rfl), hpm⟩
def hcut (h : List Int) : List Int := (h.set 0 (h.getD (h.length - 1) 0)).take (h.length - 1)
theorem hcut_len (h : List Int) : (hcut h).length = h.length - 1 := by unfold hcut; rw [List.length_take, List.length_set]; omega
theorem hcut_get (h : List Int) {t : Nat} (h0 : 0 < t) (ht : t < h.length - 1) : (hcut h).getD t 0 = h.getD t 0 := by
  unfold hcut
  simp only [List.getD_eq_getElem?_getD, List.getElem?_take, List.getElem?_set]
  rw [if_pos ht, if_neg (by omega)]
theorem hcut_dn {h : List Int} (hh : Heap h) : HpDn (hcut h) 0 := ⟨fun j h0 hj hp => by
  rw [hcut_len] at hj
  have := par_lt h0
  rw [hcut_get h (by omega) (by omega), hcut_get h h0 hj]
  exact hh j h0 (by omega), fun j _ _ _ h => by omega⟩
theorem hcut_perm {h : List Int} (h0 : 0 < h.length) : h.Perm (h.getD 0 0 :: hcut h) := by
  cases h with
  | nil => simp at h0
  | cons a t =>
    cases hr : t.reverse with
    | nil =>
      have : t = [] := by simpa using hr
      subst this; exact List.Perm.refl _
    | cons z r =>
      have ht : t = r.reverse ++ [z] := by rw [← List.reverse_reverse t, hr, List.reverse_cons]
      subst ht
      have e : hcut (a :: (r.reverse ++ [z])) = z :: r.reverse := by
        unfold hcut
        simp [List.getD_eq_getElem?_getD]
      rw [e]
      show (a :: (r.reverse ++ [z])).Perm (a :: z :: r.reverse)
      exact List.Perm.cons _ (List.perm_append_comm (l₁ := r.reverse) (l₂ := [z]))
theorem pop_tr (ph : Nat) (hv : Value) (h : List Int) (hh : Heap h) (h0 : 0 < h.length) (hl : h.length ≤ 65537) : Tr Tryz.prog 113 [ptr ph] [] [pt ph [hv] THp, own 3 hv (Is h)]
    fun v D => ∃ hv' h', v = I (h.getD 0 0) ∧ D = [pt ph [hv'] THp, own 3 hv' (Is h')] ∧ Heap h' ∧ h.Perm (h.getD 0 0 :: h') := by
  have hc1 := hcut_len h
  have hc2 := hcut_dn hh
  have hc3 := hcut_perm h0
  refine Tr.enter env _ Tryz.func113 (by kernel_rfl) rfl Tryz.ntmps113 rfl (by repeat (first | exact has00 | refine has01 ?_)) fun w0 => ?_
  have hi1 : ((h.length : Int) - 1).toNat = h.length - 1 := by omega
  repeat' first|(refine wo ?_; first|(refine ao ?_; first|refine aw ?_)|refine oa ?_|refine ld ?_|refine lnm ?_|refine ixmn ?_|refine ixm ?_|refine li ?_|refine soi ?_)|refine sq ?_|refine rg ?_|refine xc ?_|refine nl ?_
  rw [hi1]
  have hHl : (h.set 0 (h.getD (h.length - 1) 0)).length = h.length := List.length_set ..
  have hHc : hcut h = (h.set 0 (h.getD (h.length - 1) 0)).take (h.length - 1) := rfl
  generalize h.set 0 (h.getD (h.length - 1) 0) = H at *
  refine schm (l := H) ?_
  rw [hi1]
  refine TO.im (Im1.im (im_subi 3 hv H (lo := 0) (hi := h.length - 1) (Nat.zero_le _) (by omega)) _) ?_
  rw [List.drop_zero, ← hHc]
  refine TO.one (v := slSub hv 0 (h.length - 1)) (xs := Is (hcut h)) fun hv2 => ?_
  generalize slSub hv 0 (h.length - 1) = v2 at *
  repeat' first|(refine wo ?_; first|refine oa ?_|refine sr ?_)|refine sq ?_|refine rg ?_|refine xc ?_|refine nl ?_|refine bk ?_
  clear hHl hHc
  refine TC.loop (ι := Nat × List Int) (fun i => [(6, I i.1)]) (fun i => [own 3 v2 (Is i.2)]) (fun i => (i.1 = 0 ∨ i.1 < i.2.length) ∧ i.2.length = h.length - 1 ∧ HpDn i.2 i.1 ∧ h.Perm (h.getD 0 0 :: i.2)) (fun i => h.length - i.1) (0, hcut h) [0, 3, 4] ⟨.inl rfl, hc1, hc2, hc3⟩ ?_
  clear hc1 hc2 hc3
  rintro ⟨i, l⟩ ⟨hi, hlen, hdn, hpm⟩
  dsimp only at hi hlen hdn hpm ⊢
  refine TC.leni (l := l) fun hll => ?_
  have hk1 : 2 * (i : Int) + 1 = ((2 * i + 1 : Nat) : Int) := by omega
  have hk2 : 2 * (i : Int) + 2 = ((2 * i + 2 : Nat) : Int) := by omega
  repeat' first|refine bd2 ?_|(refine wo ?_; first|(refine ao ?_; first|refine aw ?_)|refine oa ?_)|refine sq ?_|refine rg ?_|refine xc ?_|refine nl ?_|refine bk ?_
  rw [hk1, hk2]
  refine TC.loop (ι := Nat × Nat) (fun u => [(39, I u.1), (7, I u.2)]) (fun _ => []) (fun u => u.1 ≤ 2 ∧ (u.2 = i ∨ (u.2 = 2 * i + 1 ∨ u.2 = 2 * i + 2) ∧ u.2 < l.length ∧ l.getD u.2 0 < l.getD i 0) ∧ (1 ≤ u.1 → 2 * i + 1 < l.length → l.getD u.2 0 ≤ l.getD (2 * i + 1) 0) ∧ (2 ≤ u.1 → 2 * i + 2 < l.length → l.getD u.2 0 ≤ l.getD (2 * i + 2) 0))
    (fun u => 2 - u.1) (0, i) [0, 3, 4, 6, 38] ⟨by simp, .inl rfl, fun h => by simp at h, fun h => by simp at h⟩ ?_
  rintro ⟨c, m⟩ ⟨g1, g2, g3, g4⟩
  dsimp only at g1 g2 g3 g4 ⊢
  have hm : m < l.length ∨ m = i := by rcases g2 with h | h; exact .inr h; exact .inl h.2.1
  by_cases hc0 : c = 0
  · subst hc0
    by_cases hk : 2 * i + 1 < l.length
    · have hml : m < l.length := by omega
      generalize hlm : l.getD m 0 = lm at *
      generalize hlk : l.getD (2 * i + 1) 0 = lk at *
      repeat' first|refine ix0 ?_|(refine qlie hlm ?_)|(refine qlie hlk ?_)|(refine wo ?_; first|(refine ao ?_; first|refine aw ?_|refine oa ?_)|refine oa ?_)|(refine gc ?_; first|refine ct ?_|(refine ci (fun hB => ?_) (fun hB => ?_) <;> try (exfalso; omega)))|refine sq ?_|refine rg ?_|refine xc ?_|refine nl ?_|refine sk ?_|refine bk ?_|refine xb ?_|refine rq ?_|refine nq ?_|(refine wq ?_; first|(refine qao ?_; first|refine qa ?_)|refine qa ?_|refine qlnm ?_|refine qixmn ?_|refine qgy ?_|(refine qgsi (fun hB => ?_) (fun hB => ?_) <;> try (exfalso; omega)))
      · refine lp (1, 2 * i + 1) ⟨by dsimp only; omega, .inr ⟨.inl rfl, hk, ?_⟩, fun _ _ => by dsimp only; rw [hlk]; exact Int.le_refl _, fun h => by simp at h⟩
        dsimp only; rw [hlk]; rcases g2 with h | h
        · subst h; rw [hlm]; assumption
        · omega
      · refine lp (1, m) ⟨by dsimp only; omega, ?_, fun _ _ => by dsimp only; rw [hlm]; omega, fun h => by simp at h⟩
        dsimp only; rw [hlm]; exact g2
    · repeat' first|refine ix0 ?_|(refine wo ?_; first|(refine ao ?_; first|refine aw ?_|refine oa ?_)|refine oa ?_)|(refine gc ?_; first|refine ct ?_|refine cf ?_)|refine sq ?_|refine rg ?_|refine xc ?_|refine nl ?_|refine sk ?_|refine bk ?_|refine xb ?_|refine rq ?_|refine nq ?_|(refine wq ?_; first|(refine qao ?_; first|refine qa ?_)|refine qa ?_|refine qlnm ?_|refine qgn ?_|(refine qgsi (fun hB => ?_) (fun hB => ?_) <;> try (exfalso; omega)))
      exact lp (1, m) ⟨by dsimp only; omega, g2, fun _ h => absurd h hk, fun h => by simp at h⟩
  · by_cases hc1 : c = 1
    · subst hc1
      by_cases hk : 2 * i + 2 < l.length
      · have hml : m < l.length := by omega
        have g5 := g3 (by decide) (by omega)
        generalize hlm : l.getD m 0 = lm at *
        generalize hlk : l.getD (2 * i + 2) 0 = lk at *
        generalize hlj : l.getD (2 * i + 1) 0 = lj at *
        repeat' first|refine ix1 ?_|(refine qlie hlm ?_)|(refine qlie hlk ?_)|(refine wo ?_; first|(refine ao ?_; first|refine aw ?_|refine oa ?_)|refine oa ?_)|(refine gc ?_; first|refine ct ?_|(refine ci (fun hB => ?_) (fun hB => ?_) <;> try (exfalso; omega)))|refine sq ?_|refine rg ?_|refine xc ?_|refine nl ?_|refine sk ?_|refine bk ?_|refine xb ?_|refine rq ?_|refine nq ?_|(refine wq ?_; first|(refine qao ?_; first|refine qa ?_)|refine qa ?_|refine qlnm ?_|refine qixmn ?_|refine qgy ?_|(refine qgsi (fun hB => ?_) (fun hB => ?_) <;> try (exfalso; omega)))
        · refine lp (2, 2 * i + 2) ⟨by dsimp only; omega, .inr ⟨.inr rfl, hk, ?_⟩, fun _ _ => by dsimp only; rw [hlk]; omega, fun _ _ => by dsimp only; rw [hlk]; exact Int.le_refl _⟩
          dsimp only; rw [hlk]; rcases g2 with h | h
          · subst h; rw [hlm]; assumption
          · omega
        · refine lp (2, m) ⟨by dsimp only; omega, ?_, fun _ _ => by dsimp only; rw [hlm]; omega, fun _ _ => by dsimp only; rw [hlm]; omega⟩
          dsimp only; rw [hlm]; exact g2
      · repeat' first|refine ix1 ?_|(refine wo ?_; first|(refine ao ?_; first|refine aw ?_|refine oa ?_)|refine oa ?_)|(refine gc ?_; first|refine ct ?_|refine cf ?_)|refine sq ?_|refine rg ?_|refine xc ?_|refine nl ?_|refine sk ?_|refine bk ?_|refine xb ?_|refine rq ?_|refine nq ?_|(refine wq ?_; first|(refine qao ?_; first|refine qa ?_)|refine qa ?_|refine qlnm ?_|refine qgn ?_|(refine qgsi (fun hB => ?_) (fun hB => ?_) <;> try (exfalso; omega)))
        exact lp (2, m) ⟨by dsimp only; omega, g2, fun _ h => g3 (by decide) h, fun _ h => absurd h hk⟩
    · obtain rfl : c = 2 := by omega
      have g3 := g3 (by decide)
      have g4 := g4 (by decide)
      by_cases hmi : m = i
      · subst hmi
        repeat' first|(refine wo ?_; first|(refine ao ?_; first|refine oa ?_)|refine oa ?_)|(refine gc ?_; first|refine cf ?_|(refine ci (fun hB => ?_) (fun hB => ?_) <;> try (exfalso; omega)))|refine sq ?_|refine rg ?_|refine xc ?_|refine nl ?_|refine xe ?_|refine rt ?_
        exact r1 ⟨v2, l, rfl, rfl, hdn.stop g3 g4, hpm⟩
      · obtain ⟨g5, g6, g7⟩ := g2.resolve_left hmi
        have hil : i < l.length := by omega
        have hst := hdn.step g5 g6 g7 g3 g4
        have hsp := swq_perm l hil g6
        have hsl := swq_len l i m
        have hsw : swq l i m = (l.set i (l.getD m 0)).set m (l.getD i 0) := rfl
        generalize hlm : l.getD m 0 = lm at *
        generalize hli : l.getD i 0 = li at *
        repeat' first|refine rs (id := 16) (fun w => ∃ xs, Sl w v2 xs ∧ xs.length = l.length) ?_ (fun w hw => ⟨_, has_sl hw (by first | (apply has_vw; (repeat (first | apply List.Mem.head | apply List.Mem.tail)); first | done | fail) | (apply has_own; (repeat (first | apply List.Mem.head | apply List.Mem.tail)); first | done | fail) | (apply has_ro; (repeat (first | apply List.Mem.head | apply List.Mem.tail)); first | done | fail) | apply has_nil | ((with_reducible apply has_el); (focus (first | (apply has_vels; (repeat (first | apply List.Mem.head | apply List.Mem.tail)); first | done | fail) | (apply has_rels; (repeat (first | apply List.Mem.head | apply List.Mem.tail)); first | done | fail))); omega) | (apply has_pt; (repeat (first | apply List.Mem.head | apply List.Mem.tail)); first | done | fail) | (apply has_lpt; (repeat (first | apply List.Mem.head | apply List.Mem.tail)); first | done | fail) | (apply has_vels; (repeat (first | apply List.Mem.head | apply List.Mem.tail)); first | done | fail) | (apply has_rels; (repeat (first | apply List.Mem.head | apply List.Mem.tail)); first | done | fail) | with_reducible assumption | ((with_reducible apply has_elg); (focus (first | (apply has_velg; (repeat (first | apply List.Mem.head | apply List.Mem.tail)); first | done | fail) | (apply has_relg; (repeat (first | apply List.Mem.head | apply List.Mem.tail)); first | done | fail))); omega) | (apply has_velg; (repeat (first | apply List.Mem.head | apply List.Mem.tail)); first | done | fail) | (apply has_relg; (repeat (first | apply List.Mem.head | apply List.Mem.tail)); first | done | fail) | (apply has_vwf; (repeat (first | apply List.Mem.head | apply List.Mem.tail)); first | done | fail) | (apply has_oww; (repeat (first | apply List.Mem.head | apply List.Mem.tail)); first | done | fail)), Is_len l⟩)|(refine wo ?_; first|(refine ao ?_; first|refine oa ?_)|refine oa ?_)|(refine gc ?_; first|refine cf ?_|(refine ci (fun hB => ?_) (fun hB => ?_) <;> try (exfalso; omega)))|refine sq ?_|refine rg ?_|refine xc ?_|refine nl ?_|refine sk ?_|refine xe ?_
        refine tka 0 ?_
        refine tka 1 ?_
        refine tka 2 ?_
        refine tka 3 ?_
        refine tka 4 ?_
        refine tka 5 ?_
        refine tkx 6 (len := l.length) (fun w h => h) ?_
        refine tka 8 ?_
        refine tka 9 ?_
        refine tkx 10 (len := l.length) (fun w h => h) ?_
        refine t2 7 11 ?_ ?_
        · refine lie hlm ?_
          repeat' first|refine nl ?_
          refine te (fun w hw => ⟨_, has_sl hw (by first | (apply has_vw; (repeat (first | apply List.Mem.head | apply List.Mem.tail)); first | done | fail) | (apply has_own; (repeat (first | apply List.Mem.head | apply List.Mem.tail)); first | done | fail) | (apply has_ro; (repeat (first | apply List.Mem.head | apply List.Mem.tail)); first | done | fail) | apply has_nil | ((with_reducible apply has_el); (focus (first | (apply has_vels; (repeat (first | apply List.Mem.head | apply List.Mem.tail)); first | done | fail) | (apply has_rels; (repeat (first | apply List.Mem.head | apply List.Mem.tail)); first | done | fail))); omega) | (apply has_pt; (repeat (first | apply List.Mem.head | apply List.Mem.tail)); first | done | fail) | (apply has_lpt; (repeat (first | apply List.Mem.head | apply List.Mem.tail)); first | done | fail) | (apply has_vels; (repeat (first | apply List.Mem.head | apply List.Mem.tail)); first | done | fail) | (apply has_rels; (repeat (first | apply List.Mem.head | apply List.Mem.tail)); first | done | fail) | with_reducible assumption | ((with_reducible apply has_elg); (focus (first | (apply has_velg; (repeat (first | apply List.Mem.head | apply List.Mem.tail)); first | done | fail) | (apply has_relg; (repeat (first | apply List.Mem.head | apply List.Mem.tail)); first | done | fail))); omega) | (apply has_velg; (repeat (first | apply List.Mem.head | apply List.Mem.tail)); first | done | fail) | (apply has_relg; (repeat (first | apply List.Mem.head | apply List.Mem.tail)); first | done | fail) | (apply has_vwf; (repeat (first | apply List.Mem.head | apply List.Mem.tail)); first | done | fail) | (apply has_oww; (repeat (first | apply List.Mem.head | apply List.Mem.tail)); first | done | fail)), Is_len l⟩) ?_
          refine t1 11 ?_
          refine lie hli ?_
          repeat' first|refine nl ?_
          refine te (fun w hw => ⟨_, has_sl hw (by first | (apply has_vw; (repeat (first | apply List.Mem.head | apply List.Mem.tail)); first | done | fail) | (apply has_own; (repeat (first | apply List.Mem.head | apply List.Mem.tail)); first | done | fail) | (apply has_ro; (repeat (first | apply List.Mem.head | apply List.Mem.tail)); first | done | fail) | apply has_nil | ((with_reducible apply has_el); (focus (first | (apply has_vels; (repeat (first | apply List.Mem.head | apply List.Mem.tail)); first | done | fail) | (apply has_rels; (repeat (first | apply List.Mem.head | apply List.Mem.tail)); first | done | fail))); omega) | (apply has_pt; (repeat (first | apply List.Mem.head | apply List.Mem.tail)); first | done | fail) | (apply has_lpt; (repeat (first | apply List.Mem.head | apply List.Mem.tail)); first | done | fail) | (apply has_vels; (repeat (first | apply List.Mem.head | apply List.Mem.tail)); first | done | fail) | (apply has_rels; (repeat (first | apply List.Mem.head | apply List.Mem.tail)); first | done | fail) | with_reducible assumption | ((with_reducible apply has_elg); (focus (first | (apply has_velg; (repeat (first | apply List.Mem.head | apply List.Mem.tail)); first | done | fail) | (apply has_relg; (repeat (first | apply List.Mem.head | apply List.Mem.tail)); first | done | fail))); omega) | (apply has_velg; (repeat (first | apply List.Mem.head | apply List.Mem.tail)); first | done | fail) | (apply has_relg; (repeat (first | apply List.Mem.head | apply List.Mem.tail)); first | done | fail) | (apply has_vwf; (repeat (first | apply List.Mem.head | apply List.Mem.tail)); first | done | fail) | (apply has_oww; (repeat (first | apply List.Mem.head | apply List.Mem.tail)); first | done | fail)), Is_len l⟩) ?_
          refine tkx 12 (len := l.length) (fun w h => h) ?_
          refine t1 13 ?_
          refine soi (m := lm) (l := l) (j := i) ?_
          repeat' first|refine nl ?_
          refine te (fun w hw => ⟨_, has_sl hw (by first | (apply has_vw; (repeat (first | apply List.Mem.head | apply List.Mem.tail)); first | done | fail) | (apply has_own; (repeat (first | apply List.Mem.head | apply List.Mem.tail)); first | done | fail) | (apply has_ro; (repeat (first | apply List.Mem.head | apply List.Mem.tail)); first | done | fail) | apply has_nil | ((with_reducible apply has_el); (focus (first | (apply has_vels; (repeat (first | apply List.Mem.head | apply List.Mem.tail)); first | done | fail) | (apply has_rels; (repeat (first | apply List.Mem.head | apply List.Mem.tail)); first | done | fail))); omega) | (apply has_pt; (repeat (first | apply List.Mem.head | apply List.Mem.tail)); first | done | fail) | (apply has_lpt; (repeat (first | apply List.Mem.head | apply List.Mem.tail)); first | done | fail) | (apply has_vels; (repeat (first | apply List.Mem.head | apply List.Mem.tail)); first | done | fail) | (apply has_rels; (repeat (first | apply List.Mem.head | apply List.Mem.tail)); first | done | fail) | with_reducible assumption | ((with_reducible apply has_elg); (focus (first | (apply has_velg; (repeat (first | apply List.Mem.head | apply List.Mem.tail)); first | done | fail) | (apply has_relg; (repeat (first | apply List.Mem.head | apply List.Mem.tail)); first | done | fail))); omega) | (apply has_velg; (repeat (first | apply List.Mem.head | apply List.Mem.tail)); first | done | fail) | (apply has_relg; (repeat (first | apply List.Mem.head | apply List.Mem.tail)); first | done | fail) | (apply has_vwf; (repeat (first | apply List.Mem.head | apply List.Mem.tail)); first | done | fail) | (apply has_oww; (repeat (first | apply List.Mem.head | apply List.Mem.tail)); first | done | fail)), by rw [Is_len, List.length_set]⟩) ?_
          refine tkx 14 (len := l.length) (fun w h => h) ?_
          refine t1 15 ?_
          refine soi (m := li) (l := l.set i lm) (j := m) ?_ (hj := by rw [List.length_set]; exact g6)
          repeat' first|refine nl ?_
          refine te (fun w hw => ⟨_, has_sl hw (by first | (apply has_vw; (repeat (first | apply List.Mem.head | apply List.Mem.tail)); first | done | fail) | (apply has_own; (repeat (first | apply List.Mem.head | apply List.Mem.tail)); first | done | fail) | (apply has_ro; (repeat (first | apply List.Mem.head | apply List.Mem.tail)); first | done | fail) | apply has_nil | ((with_reducible apply has_el); (focus (first | (apply has_vels; (repeat (first | apply List.Mem.head | apply List.Mem.tail)); first | done | fail) | (apply has_rels; (repeat (first | apply List.Mem.head | apply List.Mem.tail)); first | done | fail))); omega) | (apply has_pt; (repeat (first | apply List.Mem.head | apply List.Mem.tail)); first | done | fail) | (apply has_lpt; (repeat (first | apply List.Mem.head | apply List.Mem.tail)); first | done | fail) | (apply has_vels; (repeat (first | apply List.Mem.head | apply List.Mem.tail)); first | done | fail) | (apply has_rels; (repeat (first | apply List.Mem.head | apply List.Mem.tail)); first | done | fail) | with_reducible assumption | ((with_reducible apply has_elg); (focus (first | (apply has_velg; (repeat (first | apply List.Mem.head | apply List.Mem.tail)); first | done | fail) | (apply has_relg; (repeat (first | apply List.Mem.head | apply List.Mem.tail)); first | done | fail))); omega) | (apply has_velg; (repeat (first | apply List.Mem.head | apply List.Mem.tail)); first | done | fail) | (apply has_relg; (repeat (first | apply List.Mem.head | apply List.Mem.tail)); first | done | fail) | (apply has_vwf; (repeat (first | apply List.Mem.head | apply List.Mem.tail)); first | done | fail) | (apply has_oww; (repeat (first | apply List.Mem.head | apply List.Mem.tail)); first | done | fail)), by rw [Is_len, List.length_set, List.length_set]⟩) ?_
          refine t0 ?_
          rw [← hsw]
          repeat' first|(refine wo ?_; first|refine oa ?_)|refine rg ?_|refine xc ?_|refine nl ?_|refine xb ?_
          exact lp (m, swq l i m) ⟨.inr (by dsimp only; omega), by dsimp only; omega, hst, hpm.trans (List.Perm.cons _ hsp.symm)⟩ (hlt := by dsimp only; omega)
        · refine lie hli ?_
          repeat' first|refine nl ?_
          refine te (fun w hw => ⟨_, has_sl hw (by first | (apply has_vw; (repeat (first | apply List.Mem.head | apply List.Mem.tail)); first | done | fail) | (apply has_own; (repeat (first | apply List.Mem.head | apply List.Mem.tail)); first | done | fail) | (apply has_ro; (repeat (first | apply List.Mem.head | apply List.Mem.tail)); first | done | fail) | apply has_nil | ((with_reducible apply has_el); (focus (first | (apply has_vels; (repeat (first | apply List.Mem.head | apply List.Mem.tail)); first | done | fail) | (apply has_rels; (repeat (first | apply List.Mem.head | apply List.Mem.tail)); first | done | fail))); omega) | (apply has_pt; (repeat (first | apply List.Mem.head | apply List.Mem.tail)); first | done | fail) | (apply has_lpt; (repeat (first | apply List.Mem.head | apply List.Mem.tail)); first | done | fail) | (apply has_vels; (repeat (first | apply List.Mem.head | apply List.Mem.tail)); first | done | fail) | (apply has_rels; (repeat (first | apply List.Mem.head | apply List.Mem.tail)); first | done | fail) | with_reducible assumption | ((with_reducible apply has_elg); (focus (first | (apply has_velg; (repeat (first | apply List.Mem.head | apply List.Mem.tail)); first | done | fail) | (apply has_relg; (repeat (first | apply List.Mem.head | apply List.Mem.tail)); first | done | fail))); omega) | (apply has_velg; (repeat (first | apply List.Mem.head | apply List.Mem.tail)); first | done | fail) | (apply has_relg; (repeat (first | apply List.Mem.head | apply List.Mem.tail)); first | done | fail) | (apply has_vwf; (repeat (first | apply List.Mem.head | apply List.Mem.tail)); first | done | fail) | (apply has_oww; (repeat (first | apply List.Mem.head | apply List.Mem.tail)); first | done | fail)), Is_len l⟩) ?_
          refine t1 7 ?_
          refine lie hlm ?_
          repeat' first|refine nl ?_
          refine te (fun w hw => ⟨_, has_sl hw (by first | (apply has_vw; (repeat (first | apply List.Mem.head | apply List.Mem.tail)); first | done | fail) | (apply has_own; (repeat (first | apply List.Mem.head | apply List.Mem.tail)); first | done | fail) | (apply has_ro; (repeat (first | apply List.Mem.head | apply List.Mem.tail)); first | done | fail) | apply has_nil | ((with_reducible apply has_el); (focus (first | (apply has_vels; (repeat (first | apply List.Mem.head | apply List.Mem.tail)); first | done | fail) | (apply has_rels; (repeat (first | apply List.Mem.head | apply List.Mem.tail)); first | done | fail))); omega) | (apply has_pt; (repeat (first | apply List.Mem.head | apply List.Mem.tail)); first | done | fail) | (apply has_lpt; (repeat (first | apply List.Mem.head | apply List.Mem.tail)); first | done | fail) | (apply has_vels; (repeat (first | apply List.Mem.head | apply List.Mem.tail)); first | done | fail) | (apply has_rels; (repeat (first | apply List.Mem.head | apply List.Mem.tail)); first | done | fail) | with_reducible assumption | ((with_reducible apply has_elg); (focus (first | (apply has_velg; (repeat (first | apply List.Mem.head | apply List.Mem.tail)); first | done | fail) | (apply has_relg; (repeat (first | apply List.Mem.head | apply List.Mem.tail)); first | done | fail))); omega) | (apply has_velg; (repeat (first | apply List.Mem.head | apply List.Mem.tail)); first | done | fail) | (apply has_relg; (repeat (first | apply List.Mem.head | apply List.Mem.tail)); first | done | fail) | (apply has_vwf; (repeat (first | apply List.Mem.head | apply List.Mem.tail)); first | done | fail) | (apply has_oww; (repeat (first | apply List.Mem.head | apply List.Mem.tail)); first | done | fail)), Is_len l⟩) ?_
          refine tkx 12 (len := l.length) (fun w h => h) ?_
          refine t1 13 ?_
          refine soi (m := lm) (l := l) (j := i) ?_
          repeat' first|refine nl ?_
          refine te (fun w hw => ⟨_, has_sl hw (by first | (apply has_vw; (repeat (first | apply List.Mem.head | apply List.Mem.tail)); first | done | fail) | (apply has_own; (repeat (first | apply List.Mem.head | apply List.Mem.tail)); first | done | fail) | (apply has_ro; (repeat (first | apply List.Mem.head | apply List.Mem.tail)); first | done | fail) | apply has_nil | ((with_reducible apply has_el); (focus (first | (apply has_vels; (repeat (first | apply List.Mem.head | apply List.Mem.tail)); first | done | fail) | (apply has_rels; (repeat (first | apply List.Mem.head | apply List.Mem.tail)); first | done | fail))); omega) | (apply has_pt; (repeat (first | apply List.Mem.head | apply List.Mem.tail)); first | done | fail) | (apply has_lpt; (repeat (first | apply List.Mem.head | apply List.Mem.tail)); first | done | fail) | (apply has_vels; (repeat (first | apply List.Mem.head | apply List.Mem.tail)); first | done | fail) | (apply has_rels; (repeat (first | apply List.Mem.head | apply List.Mem.tail)); first | done | fail) | with_reducible assumption | ((with_reducible apply has_elg); (focus (first | (apply has_velg; (repeat (first | apply List.Mem.head | apply List.Mem.tail)); first | done | fail) | (apply has_relg; (repeat (first | apply List.Mem.head | apply List.Mem.tail)); first | done | fail))); omega) | (apply has_velg; (repeat (first | apply List.Mem.head | apply List.Mem.tail)); first | done | fail) | (apply has_relg; (repeat (first | apply List.Mem.head | apply List.Mem.tail)); first | done | fail) | (apply has_vwf; (repeat (first | apply List.Mem.head | apply List.Mem.tail)); first | done | fail) | (apply has_oww; (repeat (first | apply List.Mem.head | apply List.Mem.tail)); first | done | fail)), by rw [Is_len, List.length_set]⟩) ?_
          refine tkx 14 (len := l.length) (fun w h => h) ?_
          refine t1 15 ?_
          refine soi (m := li) (l := l.set i lm) (j := m) ?_ (hj := by rw [List.length_set]; exact g6)
          repeat' first|refine nl ?_
          refine te (fun w hw => ⟨_, has_sl hw (by first | (apply has_vw; (repeat (first | apply List.Mem.head | apply List.Mem.tail)); first | done | fail) | (apply has_own; (repeat (first | apply List.Mem.head | apply List.Mem.tail)); first | done | fail) | (apply has_ro; (repeat (first | apply List.Mem.head | apply List.Mem.tail)); first | done | fail) | apply has_nil | ((with_reducible apply has_el); (focus (first | (apply has_vels; (repeat (first | apply List.Mem.head | apply List.Mem.tail)); first | done | fail) | (apply has_rels; (repeat (first | apply List.Mem.head | apply List.Mem.tail)); first | done | fail))); omega) | (apply has_pt; (repeat (first | apply List.Mem.head | apply List.Mem.tail)); first | done | fail) | (apply has_lpt; (repeat (first | apply List.Mem.head | apply List.Mem.tail)); first | done | fail) | (apply has_vels; (repeat (first | apply List.Mem.head | apply List.Mem.tail)); first | done | fail) | (apply has_rels; (repeat (first | apply List.Mem.head | apply List.Mem.tail)); first | done | fail) | with_reducible assumption | ((with_reducible apply has_elg); (focus (first | (apply has_velg; (repeat (first | apply List.Mem.head | apply List.Mem.tail)); first | done | fail) | (apply has_relg; (repeat (first | apply List.Mem.head | apply List.Mem.tail)); first | done | fail))); omega) | (apply has_velg; (repeat (first | apply List.Mem.head | apply List.Mem.tail)); first | done | fail) | (apply has_relg; (repeat (first | apply List.Mem.head | apply List.Mem.tail)); first | done | fail) | (apply has_vwf; (repeat (first | apply List.Mem.head | apply List.Mem.tail)); first | done | fail) | (apply has_oww; (repeat (first | apply List.Mem.head | apply List.Mem.tail)); first | done | fail)), by rw [Is_len, List.length_set, List.length_set]⟩) ?_
          refine t0 ?_
          rw [← hsw]
          repeat' first|(refine wo ?_; first|refine oa ?_)|refine rg ?_|refine xc ?_|refine nl ?_|refine xb ?_
          exact lp (m, swq l i m) ⟨.inr (by dsimp only; omega), by dsimp only; omega, hst, hpm.trans (List.Perm.cons _ hsp.symm)⟩ (hlt := by dsimp only; omega)
end Go.Art
set_option linter.unusedSimpArgs false
set_option linter.unusedVariables false
namespace Go.Art
open Go

def Rep (h S : List Int) : Prop := Heap h ∧ h.Perm S ∧ S.Pairwise (· ≤ ·)
theorem Rep.head {h S : List Int} {a : Int} (r : Rep h (a :: S)) : h.getD 0 0 = a := by
  obtain ⟨h1, h2, h3⟩ := r
  obtain ⟨h4, h5⟩ := List.pairwise_cons.1 h3
  have ha : a ∈ h := h2.mem_iff.2 (by simp)
  obtain ⟨j, hj, e⟩ := mem_getD.1 ha
  have hl := h1.head j hj
  have h0 : h.getD 0 0 ∈ a :: S := h2.mem_iff.1 (mem_getD.2 ⟨0, by omega, rfl⟩)
  rcases List.mem_cons.1 h0 with h0 | h0
  · exact h0
  · have := h4 _ h0; omega
theorem Rep.pop {h h' S : List Int} {a : Int} (r : Rep h (a :: S)) (hh : Heap h') (hp : h.Perm (h.getD 0 0 :: h')) : Rep h' S := by
  have e := r.head
  obtain ⟨h1, h2, h3⟩ := r
  rw [e] at hp
  exact ⟨hh, List.Perm.cons_inv (hp.symm.trans h2), (List.pairwise_cons.1 h3).2⟩
theorem Rep.push {h h' S : List Int} (r : Rep h S) (x : Int) (hh : Heap h') (hp : h'.Perm (x :: h)) : Rep h' (srt (x :: S)) :=
  ⟨hh, (hp.trans (List.Perm.cons x r.2.1)).trans (srt_perm _).symm, srt_sorted _⟩
theorem Rep.nil : Rep [] [] := ⟨fun j _ h => by simp at h, List.Perm.refl _, .nil⟩
theorem Rep.len {h S : List Int} (r : Rep h S) : h.length = S.length := r.2.1.length_eq

structure AlS where
  rest : List Int
  cut : List Int
  oth : List Int
  B : List Int
  A : List Int
def alStep (all : Int) (u : AlS) (i j : Int) (B A : List Int) : AlS :=
  let ri := u.rest.getD i.toNat 0
  let r := u.rest.getD j.toNat 0 - (all - ri)
  ⟨u.rest.set j.toNat r, u.cut.set i.toNat ri, u.oth.set i.toNat j, if r > all then B else if r < all then srt (j :: B) else B, if r > all then j :: A else A⟩
def alRun (all : Int) : Nat → AlS → AlS
  | 0, u => u
  | f + 1, u => match u.B, u.A with
    | i :: B, j :: A => alRun all f (alStep all u i j B A)
    | _, _ => u
def alIn (t : List Int) (all : Int) : Nat → AlS
  | 0 => ⟨List.replicate t.length 0, List.replicate t.length 0, List.replicate t.length 0, [], []⟩
  | i + 1 => let u := alIn t all i
    let r := t.getD i 0 * t.length
    ⟨u.rest.set i r, u.cut.set i all, u.oth.set i i, if r < all then srt ((i : Int) :: u.B) else u.B, if r < all then u.A else if r > all then srt ((i : Int) :: u.A) else u.A⟩
structure AlI (t : List Int) (all : Int) (u : AlS) : Prop where
  lr : u.rest.length = t.length
  lc : u.cut.length = t.length
  lo : u.oth.length = t.length
  nd : (u.B ++ u.A).Nodup
  B : ∀ i ∈ u.B, (0 ≤ i ∧ i < t.length) ∧ 0 ≤ u.rest.getD i.toNat 0 ∧ u.rest.getD i.toNat 0 < all
  A : ∀ j ∈ u.A, (0 ≤ j ∧ j < t.length) ∧ all < u.rest.getD j.toNat 0 ∧ u.rest.getD j.toNat 0 ≤ 1099511627776 ∧ 0 < t.getD j.toNat 0
  sum : (u.B.map fun i => all - u.rest.getD i.toNat 0).sum = (u.A.map fun j => u.rest.getD j.toNat 0 - all).sum
  cut : ∀ c : Nat, c < t.length → 0 ≤ u.cut.getD c 0 ∧ u.cut.getD c 0 ≤ all
  oth : ∀ c : Nat, c < t.length → (0 ≤ u.oth.getD c 0 ∧ u.oth.getD c 0 < t.length) ∧ (u.cut.getD c 0 = all ∨ 0 < t.getD (u.oth.getD c 0).toNat 0)
  zero : ∀ c : Nat, c < t.length → ¬ 0 < t.getD c 0 → u.rest.getD c 0 = 0 ∧ ((c : Int) ∈ u.B ∨ u.cut.getD c 0 = 0)
theorem sum_pos {l : List Int} {f : Int → Int} (h : ∀ x ∈ l, 0 < f x) (hl : l ≠ []) : 0 < (l.map f).sum := by
  induction l with
  | nil => exact absurd rfl hl
  | cons a r ih =>
    have h1 := h a (by simp)
    simp only [List.map_cons, List.sum_cons]
    by_cases hr : r = []
    · subst hr; simp; omega
    · have := ih (fun x hx => h x (by simp [hx])) hr; omega
theorem AlI.more {t : List Int} {all : Int} {u : AlS} (h : AlI t all u) (hB : u.B ≠ []) : u.A ≠ [] := fun hA => by
  have h1 := sum_pos (l := u.B) (f := fun i => all - u.rest.getD i.toNat 0) (fun i hi => by have := (h.B i hi).2; omega) hB
  have h2 := h.sum
  rw [hA] at h2
  simp only [List.map_nil, List.sum_nil] at h2
  omega
theorem getD_setI (l : List Int) (i j : Int) (x : Int) (hi : 0 ≤ i ∧ i < l.length) (hj : 0 ≤ j) : (l.set i.toNat x).getD j.toNat 0 = if j = i then x else l.getD j.toNat 0 := by
  rw [getD_set _ _ _ _ (by omega)]
  by_cases e : j = i
  · subst e; rw [if_pos rfl, if_pos rfl]
  · rw [if_neg e, if_neg (by omega)]
theorem map_sum_congr {l : List Int} {f g : Int → Int} (h : ∀ x ∈ l, f x = g x) : (l.map f).sum = (l.map g).sum := by rw [List.map_congr_left h]
theorem perm_sum {l m : List Int} (h : l.Perm m) : l.sum = m.sum := by
  induction h with
  | nil => rfl
  | cons x _ ih => simp [ih]
  | swap x y l => simp only [List.sum_cons]; omega
  | trans _ _ a b => exact a.trans b
theorem srt_sum (x : Int) (B : List Int) (f : Int → Int) : ((srt (x :: B)).map f).sum = f x + (B.map f).sum := by
  rw [perm_sum ((srt_perm (x :: B)).map f)]; rfl
theorem AlI.step {t : List Int} {all : Int} {u : AlS} {i j : Int} {B A : List Int} (h : AlI t all u) (ha : 0 < all ∧ all ≤ 1099511627776) (hB : u.B = i :: B) (hA : u.A = j :: A) : AlI t all (alStep all u i j B A) := by
  have hbi := h.B i (by rw [hB]; simp)
  have haj := h.A j (by rw [hA]; simp)
  have hnd := h.nd
  rw [hB, hA] at hnd
  have hsum := h.sum
  rw [hB, hA] at hsum
  simp only [List.map_cons, List.sum_cons] at hsum
  have hlr := h.lr
  have hlc := h.lc
  have hlo := h.lo
  obtain ⟨n1, n2, n3⟩ := List.nodup_append.1 hnd
  obtain ⟨hiB, nB⟩ := List.nodup_cons.1 n1
  obtain ⟨hjA, nA⟩ := List.nodup_cons.1 n2
  have hij : i ≠ j := n3 i (by simp) j (by simp)
  have hiA : i ∉ A := fun hm => n3 i (by simp) i (by simp [hm]) rfl
  have hjB : j ∉ B := fun hm => n3 j (by simp [hm]) j (by simp) rfl
  have hBA : ∀ x ∈ B, ∀ y ∈ A, x ≠ y := fun x hx y hy => n3 x (by simp [hx]) y (by simp [hy])
  have hBm : ∀ x, x ∈ u.B ↔ x = i ∨ x ∈ B := fun x => by rw [hB, List.mem_cons]
  have hAm : ∀ x, x ∈ u.A ↔ x = j ∨ x ∈ A := fun x => by rw [hA, List.mem_cons]
  generalize hri : u.rest.getD i.toNat 0 = ri at *
  generalize hrj : u.rest.getD j.toNat 0 = rj at *
  obtain ⟨⟨i0, i1⟩, i2, i3⟩ := hbi
  obtain ⟨⟨j0, j1⟩, j2, j3, j4⟩ := haj
  have hr : ∀ x : Int, 0 ≤ x → (u.rest.set j.toNat (rj - (all - ri))).getD x.toNat 0 = if x = j then rj - (all - ri) else u.rest.getD x.toNat 0 := fun x hx => getD_setI _ _ _ _ (by omega) hx
  have hrB : ∀ x ∈ B, (u.rest.set j.toNat (rj - (all - ri))).getD x.toNat 0 = u.rest.getD x.toNat 0 := fun x hx => by rw [hr x (h.B x ((hBm x).2 (.inr hx))).1.1, if_neg (show ¬ x = j from fun e => hjB (by rw [← e]; exact hx))]
  have hrA : ∀ x ∈ A, (u.rest.set j.toNat (rj - (all - ri))).getD x.toNat 0 = u.rest.getD x.toNat 0 := fun x hx => by rw [hr x (h.A x ((hAm x).2 (.inr hx))).1.1, if_neg (show ¬ x = j from fun e => hjA (by rw [← e]; exact hx))]
  have hrjj := hr j j0
  rw [if_pos rfl] at hrjj
  have hcs : ∀ c : Nat, c < t.length → (u.cut.set i.toNat ri).getD c 0 = if (c : Int) = i then ri else u.cut.getD c 0 := fun c hc => by
    have := getD_setI u.cut i c ri (by omega) (by omega)
    simpa using this
  have hos : ∀ c : Nat, c < t.length → (u.oth.set i.toNat j).getD c 0 = if (c : Int) = i then j else u.oth.getD c 0 := fun c hc => by
    have := getD_setI u.oth i c j (by omega) (by omega)
    simpa using this
  have hsB := map_sum_congr (l := B) (f := fun x => all - (u.rest.set j.toNat (rj - (all - ri))).getD x.toNat 0) (g := fun x => all - u.rest.getD x.toNat 0) (fun x hx => by rw [hrB x hx])
  have hsA := map_sum_congr (l := A) (f := fun x => (u.rest.set j.toNat (rj - (all - ri))).getD x.toNat 0 - all) (g := fun x => u.rest.getD x.toNat 0 - all) (fun x hx => by rw [hrA x hx])
  have hcut : ∀ c : Nat, c < t.length → 0 ≤ (u.cut.set i.toNat ri).getD c 0 ∧ (u.cut.set i.toNat ri).getD c 0 ≤ all := fun c hc => by
    rw [hcs c hc]; split
    · omega
    · exact h.cut c hc
  have hoth : ∀ c : Nat, c < t.length → (0 ≤ (u.oth.set i.toNat j).getD c 0 ∧ (u.oth.set i.toNat j).getD c 0 < t.length) ∧ ((u.cut.set i.toNat ri).getD c 0 = all ∨ 0 < t.getD ((u.oth.set i.toNat j).getD c 0).toNat 0) := fun c hc => by
    rw [hos c hc, hcs c hc]; split
    · exact ⟨⟨j0, j1⟩, .inr j4⟩
    · exact h.oth c hc
  have hzero : ∀ c : Nat, c < t.length → ¬ 0 < t.getD c 0 → (u.rest.set j.toNat (rj - (all - ri))).getD c 0 = 0 ∧ ((c : Int) ∈ B ∨ (u.cut.set i.toNat ri).getD c 0 = 0) := fun c hc hp => by
    obtain ⟨z1, z2⟩ := h.zero c hc hp
    have hcj : (c : Int) ≠ j := fun e => by rw [← e] at j4; exact hp (by simpa using j4)
    have e1 := hr c (by omega)
    rw [if_neg hcj] at e1
    rw [Int.toNat_natCast] at e1
    refine ⟨e1.trans z1, ?_⟩
    rw [hcs c hc]
    by_cases hci : (c : Int) = i
    · rw [if_pos hci]; right
      rw [← hri, ← hci, Int.toNat_natCast]; exact z1
    · rw [if_neg hci]
      rcases z2 with z2 | z2
      · exact .inl (((hBm _).1 z2).resolve_left hci)
      · exact .inr z2
  have hBk : ∀ x ∈ B, (0 ≤ x ∧ x < t.length) ∧ 0 ≤ (u.rest.set j.toNat (rj - (all - ri))).getD x.toNat 0 ∧ (u.rest.set j.toNat (rj - (all - ri))).getD x.toNat 0 < all := fun x hx => by rw [hrB x hx]; exact h.B x ((hBm x).2 (.inr hx))
  have hAk : ∀ x ∈ A, (0 ≤ x ∧ x < t.length) ∧ all < (u.rest.set j.toNat (rj - (all - ri))).getD x.toNat 0 ∧ (u.rest.set j.toNat (rj - (all - ri))).getD x.toNat 0 ≤ 1099511627776 ∧ 0 < t.getD x.toNat 0 := fun x hx => by rw [hrA x hx]; exact h.A x ((hAm x).2 (.inr hx))
  unfold alStep
  rw [hri, hrj]
  dsimp only
  by_cases c1 : rj - (all - ri) > all
  · rw [if_pos c1, if_pos c1]
    refine ⟨by simp [hlr], by simp [hlc], by simp [hlo], ?_, hBk, fun x hx => ?_, ?_, hcut, hoth, hzero⟩
    · refine List.nodup_append.2 ⟨nB, List.nodup_cons.2 ⟨hjA, nA⟩, fun a ha b hb => ?_⟩
      rcases List.mem_cons.1 hb with rfl | hb
      · exact fun e => hjB (e ▸ ha)
      · exact hBA a ha b hb
    · rcases List.mem_cons.1 hx with rfl | hx
      · dsimp only; rw [hrjj]; exact ⟨⟨j0, j1⟩, by omega, by omega, j4⟩
      · exact hAk x hx
    · dsimp only
      rw [List.map_cons, List.sum_cons, hsB, hsA, hrjj]; omega
  · rw [if_neg c1, if_neg c1]
    by_cases c2 : rj - (all - ri) < all
    · rw [if_pos c2]
      have hsm : ∀ x, x ∈ srt (j :: B) ↔ x = j ∨ x ∈ B := fun x => by rw [(srt_perm _).mem_iff, List.mem_cons]
      refine ⟨by simp [hlr], by simp [hlc], by simp [hlo], ?_, fun x hx => ?_, hAk, ?_, hcut, hoth, fun c hc hp => ⟨(hzero c hc hp).1, (hzero c hc hp).2.imp (fun hm => (hsm _).2 (.inr hm)) id⟩⟩
      · refine List.nodup_append.2 ⟨(srt_perm _).nodup_iff.2 (List.nodup_cons.2 ⟨hjB, nB⟩), nA, fun a ha b hb => ?_⟩
        rcases (hsm a).1 ha with rfl | ha
        · exact fun e => hjA (e ▸ hb)
        · exact hBA a ha b hb
      · rcases (hsm x).1 hx with rfl | hx
        · dsimp only; rw [hrjj]; exact ⟨⟨j0, j1⟩, by omega, by omega⟩
        · exact hBk x hx
      · dsimp only
        rw [srt_sum, hsB, hsA, hrjj]; omega
    · rw [if_neg c2]
      refine ⟨by simp [hlr], by simp [hlc], by simp [hlo], ?_, hBk, hAk, ?_, hcut, hoth, hzero⟩
      · exact List.nodup_append.2 ⟨nB, nA, hBA⟩
      · dsimp only
        rw [hsB, hsA]; omega
structure AlJ (t : List Int) (all : Int) (n : Nat) (u : AlS) : Prop where
  lr : u.rest.length = t.length
  lc : u.cut.length = t.length
  lo : u.oth.length = t.length
  nd : (u.B ++ u.A).Nodup
  B : ∀ i ∈ u.B, (0 ≤ i ∧ i < n) ∧ 0 ≤ u.rest.getD i.toNat 0 ∧ u.rest.getD i.toNat 0 < all
  A : ∀ j ∈ u.A, (0 ≤ j ∧ j < n) ∧ all < u.rest.getD j.toNat 0 ∧ u.rest.getD j.toNat 0 ≤ 1099511627776 ∧ 0 < t.getD j.toNat 0
  sum : (u.B.map fun i => all - u.rest.getD i.toNat 0).sum - (u.A.map fun j => u.rest.getD j.toNat 0 - all).sum = n * all - t.length * (t.take n).sum
  cut : ∀ c : Nat, c < n → u.cut.getD c 0 = all
  oth : ∀ c : Nat, c < n → u.oth.getD c 0 = c
  zero : ∀ c : Nat, c < n → ¬ 0 < t.getD c 0 → u.rest.getD c 0 = 0 ∧ (c : Int) ∈ u.B
theorem AlJ.start (t : List Int) (all : Int) : AlJ t all 0 (alIn t all 0) := ⟨by simp [alIn], by simp [alIn], by simp [alIn], by simp [alIn], by simp [alIn], by simp [alIn], by simp [alIn], fun c h => by omega, fun c h => by omega, fun c h => by omega⟩
theorem AlJ.step {t : List Int} {all : Int} {n : Nat} (hw : ∀ w ∈ t, 0 ≤ w ∧ w ≤ 16777215) (hl : t.length ≤ 65536) (ha : 0 < all) (hn : n < t.length) (h : AlJ t all n (alIn t all n)) : AlJ t all (n + 1) (alIn t all (n + 1)) := by
  have hb := hw _ (mem_getD.2 ⟨n, hn, rfl⟩)
  have hts : (t.take (n + 1)).sum = (t.take n).sum + t.getD n 0 := by rw [take_succ' hn 0, List.sum_append]; simp
  unfold alIn
  generalize alIn t all n = u at *
  obtain ⟨h1, h2, h3, h4, h5, h6, h7, h8, h9, h10⟩ := h
  have hr0 : 0 ≤ t.getD n 0 * t.length := Int.mul_nonneg hb.1 (by omega)
  have hr1 : t.getD n 0 * t.length ≤ 16777215 * 65536 := Int.mul_le_mul hb.2 (by omega) (by omega) (by omega)
  have hr2 : t.getD n 0 * t.length = t.length * t.getD n 0 := Int.mul_comm _ _
  have hr3 : ¬ 0 < t.getD n 0 → t.getD n 0 * t.length = 0 := fun hz => by rw [show t.getD n 0 = 0 by omega, Int.zero_mul]
  have hS : ((n + 1 : Nat) : Int) * all - t.length * (t.take (n + 1)).sum = n * all + all - (t.length * (t.take n).sum + t.getD n 0 * (t.length : Int)) := by
    rw [hts, Int.mul_add, ← hr2, show ((n + 1 : Nat) : Int) = (n : Int) + 1 by omega, Int.add_mul, Int.one_mul]
  generalize hr : t.getD n 0 * (t.length : Int) = r at *
  dsimp only
  have G : ∀ x : Int, 0 ≤ x → (u.rest.set n r).getD x.toNat 0 = if x = n then r else u.rest.getD x.toNat 0 := fun x hx => by
    have := getD_setI u.rest n x r (by omega) hx
    rwa [Int.toNat_natCast] at this
  have GB : ∀ x ∈ u.B, (u.rest.set n r).getD x.toNat 0 = u.rest.getD x.toNat 0 := fun x hx => by rw [G x (h5 x hx).1.1, if_neg (by have := (h5 x hx).1; omega)]
  have GA : ∀ x ∈ u.A, (u.rest.set n r).getD x.toNat 0 = u.rest.getD x.toNat 0 := fun x hx => by rw [G x (h6 x hx).1.1, if_neg (by have := (h6 x hx).1; omega)]
  have Gn := G n (by omega)
  rw [if_pos rfl] at Gn
  have hnB : (n : Int) ∉ u.B := fun hm => by have := (h5 _ hm).1; omega
  have hnA : (n : Int) ∉ u.A := fun hm => by have := (h6 _ hm).1; omega
  have hsB := map_sum_congr (l := u.B) (f := fun x => all - (u.rest.set n r).getD x.toNat 0) (g := fun x => all - u.rest.getD x.toNat 0) (fun x hx => by rw [GB x hx])
  have hsA := map_sum_congr (l := u.A) (f := fun x => (u.rest.set n r).getD x.toNat 0 - all) (g := fun x => u.rest.getD x.toNat 0 - all) (fun x hx => by rw [GA x hx])
  have hBk : ∀ x ∈ u.B, (0 ≤ x ∧ x < (n + 1 : Nat)) ∧ 0 ≤ (u.rest.set n r).getD x.toNat 0 ∧ (u.rest.set n r).getD x.toNat 0 < all := fun x hx => by
    rw [GB x hx]; have := h5 x hx; exact ⟨by omega, this.2⟩
  have hAk : ∀ x ∈ u.A, (0 ≤ x ∧ x < (n + 1 : Nat)) ∧ all < (u.rest.set n r).getD x.toNat 0 ∧ (u.rest.set n r).getD x.toNat 0 ≤ 1099511627776 ∧ 0 < t.getD x.toNat 0 := fun x hx => by
    rw [GA x hx]; have := h6 x hx; exact ⟨by omega, this.2⟩
  have hcut : ∀ c : Nat, c < n + 1 → (u.cut.set n all).getD c 0 = all := fun c hc => by
    rw [getD_set _ _ _ _ (by omega)]; split
    · rfl
    · exact h8 c (by omega)
  have hoth : ∀ c : Nat, c < n + 1 → (u.oth.set n (n : Int)).getD c 0 = c := fun c hc => by
    rw [getD_set _ _ _ _ (by omega)]; split
    · omega
    · exact h9 c (by omega)
  have hz : ∀ c : Nat, c < n → ¬ 0 < t.getD c 0 → (u.rest.set n r).getD c 0 = 0 ∧ (c : Int) ∈ u.B := fun c hc hp => by
    obtain ⟨z1, z2⟩ := h10 c hc hp
    rw [getD_set _ _ _ _ (by omega), if_neg (by omega)]; exact ⟨z1, z2⟩
  obtain ⟨n1, n2, n3⟩ := List.nodup_append.1 h4
  by_cases c1 : r < all
  · rw [if_pos c1, if_pos c1]
    have hsm : ∀ x, x ∈ srt ((n : Int) :: u.B) ↔ x = n ∨ x ∈ u.B := fun x => by rw [(srt_perm _).mem_iff, List.mem_cons]
    refine ⟨by simp [h1], by simp [h2], by simp [h3], ?_, fun x hx => ?_, hAk, ?_, hcut, hoth, fun c hc hp => ?_⟩
    · refine List.nodup_append.2 ⟨(srt_perm _).nodup_iff.2 (List.nodup_cons.2 ⟨hnB, n1⟩), n2, fun a ha' b hb' => ?_⟩
      rcases (hsm a).1 ha' with rfl | ha'
      · exact fun e => hnA (by rw [e]; exact hb')
      · exact n3 a ha' b hb'
    · rcases (hsm x).1 hx with rfl | hx
      · dsimp only; rw [Gn]; exact ⟨by omega, by omega, by omega⟩
      · exact hBk x hx
    · dsimp only; rw [srt_sum, hsB, hsA, Gn, hS]; omega
    · by_cases e : c = n
      · subst e
        rw [Int.toNat_natCast] at Gn
        exact ⟨Gn.trans (hr3 hp), (hsm _).2 (.inl rfl)⟩
      · exact ⟨(hz c (by omega) hp).1, (hsm _).2 (.inr (hz c (by omega) hp).2)⟩
  · rw [if_neg c1, if_neg c1]
    have hp1 : 0 < t.getD n 0 := Classical.byContradiction fun hp => by have := hr3 hp; omega
    have hzk : ∀ c : Nat, c < n + 1 → ¬ 0 < t.getD c 0 → (u.rest.set n r).getD c 0 = 0 ∧ (c : Int) ∈ u.B := fun c hc hp => by
      by_cases e : c = n
      · subst e; exact absurd hp1 hp
      · exact hz c (by omega) hp
    by_cases c2 : r > all
    · rw [if_pos c2]
      have hsm : ∀ x, x ∈ srt ((n : Int) :: u.A) ↔ x = n ∨ x ∈ u.A := fun x => by rw [(srt_perm _).mem_iff, List.mem_cons]
      refine ⟨by simp [h1], by simp [h2], by simp [h3], ?_, hBk, fun x hx => ?_, ?_, hcut, hoth, hzk⟩
      · refine List.nodup_append.2 ⟨n1, (srt_perm _).nodup_iff.2 (List.nodup_cons.2 ⟨hnA, n2⟩), fun a ha' b hb' => ?_⟩
        rcases (hsm b).1 hb' with rfl | hb'
        · exact fun e => hnB (by rw [← e]; exact ha')
        · exact n3 a ha' b hb'
      · rcases (hsm x).1 hx with rfl | hx
        · dsimp only; rw [Gn, Int.toNat_natCast]; exact ⟨by omega, by omega, by omega, hp1⟩
        · exact hAk x hx
      · dsimp only; rw [srt_sum, hsB, hsA, Gn, hS]; omega
    · rw [if_neg c2]
      refine ⟨by simp [h1], by simp [h2], by simp [h3], h4, hBk, hAk, ?_, hcut, hoth, hzk⟩
      dsimp only; rw [hsB, hsA, hS]; omega
theorem AlJ.all {t : List Int} {all : Int} (hw : ∀ w ∈ t, 0 ≤ w ∧ w ≤ 16777215) (hl : t.length ≤ 65536) (ha : 0 < all) : ∀ n : Nat, n ≤ t.length → AlJ t all n (alIn t all n)
  | 0, _ => AlJ.start t all
  | n + 1, h => AlJ.step hw hl ha h (AlJ.all hw hl ha n (by omega))
theorem AlJ.done {t : List Int} {u : AlS} (ha : 0 < t.sum) (h : AlJ t t.sum t.length u) : AlI t t.sum u := by
  refine ⟨h.lr, h.lc, h.lo, h.nd, h.B, h.A, ?_, fun c hc => ?_, fun c hc => ?_, fun c hc hp => ?_⟩
  · have := h.sum
    rw [List.take_length] at this
    omega
  · rw [h.cut c hc]; omega
  · rw [h.cut c hc, h.oth c hc]; exact ⟨by omega, .inl rfl⟩
  · exact ⟨(h.zero c hc hp).1, .inl (h.zero c hc hp).2⟩
def alMu (u : AlS) : Nat := u.B.length + 2 * u.A.length
theorem alStep_mu {all : Int} {u : AlS} {i j : Int} {B A : List Int} (hB : u.B = i :: B) (hA : u.A = j :: A) : alMu (alStep all u i j B A) < alMu u := by
  unfold alMu alStep
  dsimp only
  rw [hB, hA]
  split
  · simp only [List.length_cons]; omega
  · split
    · rw [srt_length]; simp only [List.length_cons]; omega
    · simp only [List.length_cons]; omega
theorem alRun_more {all : Int} (f : Nat) : ∀ (g : Nat) (u : AlS), alMu u ≤ f → alMu u ≤ g → alRun all f u = alRun all g u := by
  have key : ∀ (f : Nat) (u : AlS), alMu u = 0 → alRun all f u = u := fun f u h => by
    cases f with
    | zero => rfl
    | succ f =>
      unfold alRun
      have : u.B = [] := List.eq_nil_of_length_eq_zero (by unfold alMu at h; omega)
      rw [this]
  induction f with
  | zero => intro g u h1 _; rw [key 0 u (by omega), key g u (by omega)]
  | succ f ih =>
    intro g u h1 h2
    cases g with
    | zero => rw [key (f + 1) u (by omega), key 0 u (by omega)]
    | succ g =>
      unfold alRun
      split
      · rename_i i B j A hB hA
        have := alStep_mu (all := all) hB hA
        exact ih g _ (by omega) (by omega)
      · rfl
def alEnd (all : Int) (u : AlS) : AlS := alRun all (alMu u) u
theorem alEnd_stop {all : Int} {u : AlS} (h : u.B = []) : alEnd all u = u := by
  unfold alEnd
  cases alMu u with
  | zero => rfl
  | succ f => unfold alRun; rw [h]
theorem alEnd_step {all : Int} {u : AlS} {i j : Int} {B A : List Int} (hB : u.B = i :: B) (hA : u.A = j :: A) : alEnd all u = alEnd all (alStep all u i j B A) := by
  have hm := alStep_mu (all := all) hB hA
  unfold alEnd
  obtain ⟨k, hk⟩ : ∃ k, alMu u = k + 1 := ⟨alMu u - 1, by omega⟩
  rw [hk]
  conv => lhs; unfold alRun
  rw [hB, hA]
  exact alRun_more _ _ _ (by omega) (Nat.le_refl _)
theorem AlI.end {t : List Int} {all : Int} (ha : 0 < all ∧ all ≤ 1099511627776) (m : Nat) : ∀ u, alMu u ≤ m → AlI t all u → AlI t all (alEnd all u) ∧ (alEnd all u).B = [] := by
  induction m with
  | zero =>
    intro u hm h
    have hB : u.B = [] := List.eq_nil_of_length_eq_zero (by unfold alMu at hm; omega)
    rw [alEnd_stop hB]; exact ⟨h, hB⟩
  | succ m ih =>
    intro u hm h
    cases hB : u.B with
    | nil => rw [alEnd_stop hB]; exact ⟨h, hB⟩
    | cons i B =>
      cases hA : u.A with
      | nil => exact absurd hA (h.more (by rw [hB]; simp))
      | cons j A =>
        have := alStep_mu (all := all) hB hA
        rw [alEnd_step hB hA]
        exact ih _ (by omega) (h.step ha hB hA)
def alF (t : List Int) : AlS := alEnd t.sum (alIn t t.sum t.length)
theorem alF_ok {t : List Int} (hw : ∀ w ∈ t, 0 ≤ w ∧ w ≤ 16777215) (hl : 1 ≤ t.length ∧ t.length ≤ 65536) (ha : 0 < t.sum) : alE t.sum (alF t).cut (alF t).oth = 0 ∧ (alF t).cut.length = t.length ∧ ∀ c l : Int, 0 ≤ c ∧ c < t.length → 0 ≤ l ∧ l < t.sum → 0 < t.getD (alPick t.sum (alF t).cut (alF t).oth c l).toNat 0 := by
  have hs := sum_bound hw
  have hall : 0 < t.sum ∧ t.sum ≤ 1099511627776 := by omega
  obtain ⟨hI, hB⟩ := AlI.end hall _ _ (Nat.le_refl _) ((AlJ.all hw hl.2 ha t.length (Nat.le_refl _)).done ha)
  change AlI t t.sum (alF t) at hI
  change (alF t).B = [] at hB
  generalize alF t = u at *
  refine ⟨?_, hI.lc, fun c l hc hl' => ?_⟩
  · unfold alE
    rw [if_neg (by rw [hI.lc, hI.lo]; omega), if_neg]
    rw [Bool.or_eq_true, List.any_eq_true, List.any_eq_true]
    rintro (⟨x, hx, hb⟩ | ⟨x, hx, hb⟩)
    · obtain ⟨c, hc, rfl⟩ := mem_getD.1 hx
      have := hI.cut c (by rw [← hI.lc]; exact hc)
      have hb := of_decide_eq_true hb
      omega
    · obtain ⟨c, hc, rfl⟩ := mem_getD.1 hx
      have := (hI.oth c (by rw [← hI.lo]; exact hc)).1
      have hb := of_decide_eq_true hb
      rw [hI.lc] at hb
      omega
  · have h1 := hI.oth c.toNat (by omega)
    have h2 := hI.zero c.toNat (by omega)
    unfold alPick
    split
    · rename_i hlt
      refine Classical.byContradiction fun hn => ?_
      have := (h2 hn).2
      rw [hB] at this
      rcases this with h | h
      · cases h
      · omega
    · rename_i hlt
      rcases h1.2 with h | h
      · omega
      · exact h
end Go.Art
