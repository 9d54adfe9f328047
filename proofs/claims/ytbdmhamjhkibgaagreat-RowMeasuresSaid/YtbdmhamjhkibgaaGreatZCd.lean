/- Texts put together: Nm Nn No Np Za Zb Zc Zd Ze Ar LaySort Srt Q Lt. Conditions: none. -/
import Derived.Test.YtbdmhamjhkibgaaGreatZCc
set_option linter.unusedSimpArgs false
set_option linter.unusedVariables false
namespace Go.Art
open Go Go.Proofs Go.RowKit
def stepL (ys : List Nat) (j n : Nat) (r : List Nat) : List Nat := ys.take j ++ r ++ List.replicate (n + 1 - r.length) 0 ++ ys.drop (j + n + 1)
theorem stepL_facts {ys r : List Nat} {j n : Nat} (hr : r.length ≤ n + 1) (hj : j + n + 1 ≤ ys.length) (hd : Dg ys) (hdr : Dg r) :
    (stepL ys j n r).length = ys.length ∧ Dg (stepL ys j n r) ∧ nv (stepL ys j n r) = nv (ys.take j) + 18446744073709551616 ^ j * (nv r + 18446744073709551616 ^ (n + 1) * nv (ys.drop (j + n + 1))) ∧ nv ((stepL ys j n r).drop j) = nv r + 18446744073709551616 ^ (n + 1) * nv (ys.drop (j + n + 1)) := by
  have e1 : nv (r ++ List.replicate (n + 1 - r.length) 0 ++ ys.drop (j + n + 1)) = nv r + 18446744073709551616 ^ (n + 1) * nv (ys.drop (j + n + 1)) := by
    rw [nv_app, nv_app, nv_rep, Nat.mul_zero, Nat.add_zero, List.length_append, List.length_replicate, show r.length + (n + 1 - r.length) = n + 1 by omega]
  have e2 : stepL ys j n r = ys.take j ++ (r ++ List.replicate (n + 1 - r.length) 0 ++ ys.drop (j + n + 1)) := by unfold stepL; simp only [List.append_assoc]
  have hl : (ys.take j).length = j := by rw [List.length_take]; omega
  refine ⟨?_, ?_, ?_, ?_⟩
  · unfold stepL; simp; omega
  · exact (((hd.take j).app hdr).app (Dg.rep _)).app (hd.drop _)
  · rw [e2, nv_app, e1, hl]
  · rw [e2, List.drop_left' hl, e1]
theorem win_facts {ys : List Nat} {j n : Nat} (hj : j + n + 1 ≤ ys.length) : nv ys = nv (ys.take j) + 18446744073709551616 ^ j * (nv ((ys.take (j + n + 1)).drop j) + 18446744073709551616 ^ (n + 1) * nv (ys.drop (j + n + 1))) := by
  have h1 := nv_cut ys j
  have h2 := nv_cut (ys.drop j) (n + 1)
  rw [List.drop_drop, List.take_drop, show j + (n + 1) = j + n + 1 by omega] at h2
  rw [h1, h2]
theorem guess_ok {w V u1 u0 t n low vlow : Nat} (hw : w = (u1 * 18446744073709551616 + u0) * 18446744073709551616 ^ n + low) (hlow : low < 18446744073709551616 ^ n) (hV : V = t * 18446744073709551616 ^ n + vlow) (ht : 0 < t) : w / V ≤ (u1 * 18446744073709551616 + u0) / t := by
  have hp : 0 < 18446744073709551616 ^ n := Nat.pow_pos (by decide)
  have h1 : w / V ≤ w / (t * 18446744073709551616 ^ n) := Nat.div_le_div_left (by omega) (Nat.mul_pos ht hp)
  have h2 : w / (t * 18446744073709551616 ^ n) = (u1 * 18446744073709551616 + u0) / t := by
    rw [Nat.mul_comm t, ← Nat.div_div_eq_div_mul, hw, Nat.mul_comm _ (18446744073709551616 ^ n), Nat.mul_add_div hp, Nat.div_eq_of_lt hlow, Nat.add_zero]
  omega
theorem Im.drop' {c : Ch} {A : List Ch} : Im (c :: A) A := Im.trans (Im.perm (List.perm_append_comm (l₁ := [c]) (l₂ := A))) (Im.drop A [c])
attribute [local irreducible] Fit pt own ro vw mpc lpt vels rels mow lrc dfr
set_option maxHeartbeats 2000000 in
theorem step_tr (o vv : Value) (ys v : List Nat) (j : Nat) (hd : Dg ys) (hv : Dg v) (hvl : 2 ≤ v.length) (htop : v.getD (v.length - 1) 0 ≠ 0) (hj : j + v.length + 1 ≤ ys.length) (hyl : ys.length ≤ 1099511627776) (hw : nv ((ys.take (j + v.length + 1)).drop j) < nv v * 18446744073709551616) :
    Tr Tryz.prog 168 [slSub o j (j + v.length + 1), vv] [vw vv (Us v)] [own T64 o (Us ys)] fun u D => u = Un (nv ((ys.take (j + v.length + 1)).drop j) / nv v) ∧ D = [own T64 o (Us (stepL ys j v.length (dg (nv ((ys.take (j + v.length + 1)).drop j) % nv v))))] := by
  have hh : Has [own T64 o (Us ys), vw vv (Us v)] (vw (slSub o j (j + v.length + 1)) (Us ((ys.take (j + v.length + 1)).drop j))) := has_subu (has_own (List.Mem.head _)) (by omega) hj
  have hwd : Dg ((ys.take (j + v.length + 1)).drop j) := hd.sub _ _
  have hwl : ((ys.take (j + v.length + 1)).drop j).length = v.length + 1 := by rw [List.length_drop, List.length_take]; omega
  obtain ⟨uv, huv⟩ : ∃ uv, uv = slSub o j (j + v.length + 1) := ⟨_, rfl⟩
  obtain ⟨win, hwin⟩ : ∃ win, win = (ys.take (j + v.length + 1)).drop j := ⟨_, rfl⟩
  rw [← huv] at hh ⊢
  rw [← hwin] at hh hwd hwl hw ⊢
  -- the digits that the guess is made of
  obtain ⟨u1, eu1⟩ : ∃ u1, win.getD v.length 0 = u1 := ⟨_, rfl⟩
  obtain ⟨u0, eu0⟩ : ∃ u0, win.getD ((v.length : Int) - 1).toNat 0 = u0 := ⟨_, rfl⟩
  obtain ⟨t, et⟩ : ∃ t, v.getD ((v.length : Int) - 1).toNat 0 = t := ⟨_, rfl⟩
  have hn1 : ((v.length : Int) - 1).toNat = v.length - 1 := by omega
  have bu1 : u1 < 18446744073709551616 := by rw [← eu1]; exact hwd.getD _
  have bu0 : u0 < 18446744073709551616 := by rw [← eu0]; exact hwd.getD _
  have bt : t < 18446744073709551616 := by rw [← et]; exact hv.getD _
  have ht0 : t ≠ 0 := by rw [← et, hn1]; exact htop
  have hV0 : 0 < nv v := by
    refine Nat.pos_of_ne_zero fun h => ht0 ?_
    rw [← et, hn1, List.getD_eq_getElem?_getD, List.getElem?_eq_getElem (by omega)]
    exact nv_zero h _ (List.getElem_mem _)
  have hVb := nv_lt hv
  have hQb : nv win / nv v < 18446744073709551616 := by rw [Nat.div_lt_iff_lt_mul hV0, Nat.mul_comm]; exact hw
  have hG : u1 < t → nv win / nv v ≤ (u1 * 18446744073709551616 + u0) / t := fun _ => by
    refine guess_ok (n := v.length - 1) (low := nv (win.take (v.length - 1))) (vlow := nv (v.take (v.length - 1))) ?_ (nv_low hwd _) ?_ (by omega)
    · rw [nv_cut win (v.length - 1), nv_step, nv_step, show v.length - 1 + 1 = v.length by omega, List.drop_eq_nil_of_le (by omega), ← hn1, eu0, eu1]
      simp only [nv, Nat.mul_zero, Nat.add_zero]
      rw [Nat.mul_comm (u1 * 18446744073709551616 + u0), Nat.mul_comm u1, Nat.add_comm u0]; exact Nat.add_comm _ _
    · rw [nv_cut v (v.length - 1), nv_step, List.drop_eq_nil_of_le (by omega), ← hn1, et]
      simp only [nv, Nat.mul_zero, Nat.add_zero]
      rw [Nat.mul_comm t]; exact Nat.add_comm _ _
  have hGb : u1 < t → (u1 * 18446744073709551616 + u0) / t < 18446744073709551616 := fun h => by
    rw [Nat.div_lt_iff_lt_mul (by omega)]
    have := Nat.mul_le_mul_right 18446744073709551616 h
    rw [Nat.succ_mul, Nat.mul_comm t] at this
    omega
  have hrl : (dg (nv win % nv v)).length ≤ v.length := (dg_len _ _).2 (Nat.lt_trans (Nat.mod_lt _ hV0) hVb)
  have hdm := Nat.div_add_mod (nv win) (nv v)
  obtain ⟨Q, hQ⟩ : ∃ Q, Q = nv win / nv v := ⟨_, rfl⟩
  obtain ⟨r, hr⟩ : ∃ r, r = nv win % nv v := ⟨_, rfl⟩
  rw [← hQ] at hQb hG hdm ⊢
  rw [← hr] at hrl hdm ⊢
  have hrV : r < nv v := by rw [hr]; exact Nat.mod_lt _ hV0
  have hle : ∀ g, nv v * g ≤ nv win → g ≤ Q := fun g h => by rw [hQ, Nat.le_div_iff_mul_le hV0, Nat.mul_comm]; exact h
  clear hQ hr hwin
  refine Tr.enter env _ Tryz.func168 (by kernel_rfl) rfl Tryz.ntmps168 rfl (by repeat (first | exact has00 | refine has01 ?_)) fun w0 => ?_
  refine TC.im (B := [own T64 o (Us ys), vw vv (Us v)]) (Im.perm (List.Perm.swap _ _ _)) ?_
  repeat' first|(refine wo ?_; first|refine oa ?_)|refine sq ?_|refine rg ?_|refine xc ?_|refine nl ?_
  refine TC.scopeG (ι := Nat × Value) (l := 0) (fun i => [(0, uv), (1, vv), (5, I v.length), (6, Un i.1), (7, i.2)]) (fun i => [own T64 i.2 (Us (dg (nv v * i.1))), own T64 o (Us ys), vw vv (Us v)]) (fun i => Q ≤ i.1 ∧ i.1 < 18446744073709551616 ∧ i.2.oneCell' = true) (fun i => i.1) ?_ (fun kb => ?_)
  · rintro ⟨g, p⟩ ⟨h1, h2, h3⟩
    dsimp only at h1 h2 h3 ⊢
    have hpn : nv (dg (nv v * g)) = nv v * g := nv_dg _
    have hpd : Dg (dg (nv v * g)) := Dg_dg _
    have hpl : (dg (nv v * g)).length ≤ 1099511627776 := Nat.le_trans ((dg_len _ (v.length + 1)).2 (by rw [Nat.pow_succ]; exact Nat.mul_lt_mul'' hVb h2)) (by omega)
    have hh2 : Has [own T64 p (Us (dg (nv v * g))), own T64 o (Us ys), vw vv (Us v)] (vw uv (Us win)) := hh.mono Im.drop'
    have hCmp := Cmp_tr p uv (dg (nv v * g)) win hpd hwd
    rw [hpn] at hCmp
    by_cases hgt : nv win < nv v * g
    · have hc : ¬ cmpN (nv v * g) (nv win) < 0 ∧ cmpN (nv v * g) (nv win) ≠ 0 := ⟨by rw [cmpN_lt]; omega, by rw [Ne, cmpN_eq]; omega⟩
      have hg1 : 1 ≤ g := by
        rcases Nat.eq_zero_or_pos g with h | h
        · rw [h, Nat.mul_zero] at hgt; omega
        · exact h
      have hQg : Q ≤ g - 1 := by
        rcases Nat.lt_or_ge Q g with h | h
        · omega
        · obtain rfl : Q = g := by omega
          omega
      have hsb : nv v * g - nv v = nv v * (g - 1) := by rw [Nat.mul_sub, Nat.mul_one]
      have hSub := NSub_tr p vv (dg (nv v * g)) v hpd hv hpl (by omega) (by rw [hpn]; exact Nat.le_mul_of_pos_right _ hg1)
      rw [hpn, hsb] at hSub
      clear hgt hsb
      repeat' first|(refine gca ?_; first|(refine ca hCmp ?_; rintro _ _ ⟨rfl, rfl⟩; refine TO.im (B := [own T64 p (Us (dg (nv v * g))), own T64 o (Us ys), vw vv (Us v)]) (Im.refl _) ?_)|(refine ca hSub ?_; rintro _ _ ⟨p2, rfl, hp2, rfl⟩))|(refine wo ?_; first|(refine ao ?_; first|(refine nao ?_; first|refine nsb ?_)|(refine naou ?_; first|refine nsb ?_)|refine oa ?_)|refine oa ?_)|(refine gc ?_; first|(refine ci (fun hB => ?_) (fun hB => ?_) <;> try (exfalso; omega)))|refine sq ?_|refine rg ?_|refine xc ?_|refine nl ?_
      exact gto (g - 1, p2) ⟨hQg, by omega, hp2⟩
    · obtain rfl : g = Q := Nat.le_antisymm (hle g (by omega)) h1
      have hc : ¬ 0 < cmpN (nv v * g) (nv win) := by unfold cmpN; split <;> (try split) <;> omega
      have hsb : nv win - nv v * g = r := by omega
      have hSub := NSub_tr uv p win (dg (nv v * g)) hwd hpd (by omega) hpl (by rw [hpn]; omega)
      rw [hpn, hsb] at hSub
      obtain ⟨y1, hy1⟩ : ∃ y1, y1 = ys.take j ++ List.replicate (v.length + 1) 0 ++ ys.drop (j + v.length + 1) := ⟨_, rfl⟩
      have hl1 : (ys.take j).length = j := by rw [List.length_take]; omega
      have hy1l : y1.length = ys.length := by rw [hy1]; simp; omega
      have eq1 : (Us ys).take j ++ List.replicate (j + v.length + 1 - j) (Un 0) ++ (Us ys).drop (j + v.length + 1) = Us y1 := by
        rw [Us_rep, Us_take, Us_drop, ← Us_app, ← Us_app, hy1, show j + v.length + 1 - j = v.length + 1 by omega]
      have eq2 : (Us y1).take j ++ Us (dg r) ++ (Us y1).drop (j + (Us (dg r)).length) = Us (stepL ys j v.length (dg r)) := by
        rw [Us_len, Us_take, Us_drop, ← Us_app, ← Us_app, stepL, hy1]
        simp only [List.append_assoc]
        rw [List.take_left' hl1, ← List.drop_drop, List.drop_left' hl1, List.drop_append_of_le_length (by rw [List.length_replicate]; omega), List.drop_replicate]
      have hcl : j + (Us (dg r)).length ≤ j + v.length + 1 := by rw [Us_len]; omega
      have hyu : j + v.length + 1 ≤ (Us ys).length := by rw [Us_len]; omega
      have hyu1 : j + v.length + 1 ≤ (Us y1).length := by rw [Us_len]; omega
      clear hsb hgt hdm
      repeat' first|(refine gca ?_; first|(refine ca hCmp ?_; rintro _ _ ⟨rfl, rfl⟩; refine TO.im (B := [own T64 p (Us (dg (nv v * g))), own T64 o (Us ys), vw vv (Us v)]) (Im.refl _) ?_)|(refine ca hSub ?_ (hs := Fit.nil) (hp := has1 hh2 (has1 (has_own (List.Mem.head _)) has0)); rintro _ _ ⟨p2, rfl, hp2, rfl⟩))|(refine clr (a := o) (lo := j) (hi := j + v.length + 1) (xs := Us ys) (z := Un 0) ?_ (by rw [← huv]; rfl) (hlo := by omega) (hhi := hyu); rw [eq1])|(refine cps (a := o) (lo := j) (hi := j + v.length + 1) (xs := Us y1) (cs := Us (dg r)) ?_ (by rw [← huv]; rfl) (hlo := by omega) (hhi := hyu1) (hcs := hcl) (h1 := Us_one _); rw [eq2])|(refine wo ?_; first|(refine ao ?_; first|refine oa ?_)|refine oa ?_)|(refine gc ?_; first|(refine ci (fun hB => ?_) (fun hB => ?_) <;> try (exfalso; omega)))|refine sq ?_|refine rg ?_|refine xc ?_|refine nl ?_|refine sk ?_|refine rt ?_
      exact scg (fun _ _ _ => rfl) (r1 ⟨rfl, rfl⟩)
  · repeat' first|refine sq_cutX (a := .seq (.region 3 _ _) _) (ι := Nat) (fun g => Q ≤ g ∧ g < 18446744073709551616) (fun g => [(0, uv), (1, vv), (5, I v.length), (6, Un g)]) (fun _ => [own T64 o (Us ys), vw vv (Us v)]) ?_ (fun kc => ?_)|(refine wo ?_; first|refine oa ?_|refine lnm ?_)|refine sq ?_|refine rg ?_|refine xc ?_|refine nl ?_
    · rintro g ⟨h1, h2⟩
      repeat' first|(refine gca ?_; first|(refine ca (NGrow_tr vv v g hv h2 (by omega)) ?_; rintro p _ ⟨hp, rfl⟩))|exact kb (g, p) ⟨h1, h2, hp⟩ _ _ (by (repeat (refine Sub.cons rfl (by first | rfl | go_num) ?_)); exact Sub.nil) (by first | apply Fit.all | ((repeat (first | (apply Fit.nilN; (repeat (first | apply nrm_nil | apply nrm_cons)); try apply nrm_rfl) | (apply Fit.cons; focus ((repeat (first | apply Tk.here | apply Tk.there)); first | done | fail)))); first | done | fail))|(refine wo ?_; first|refine oa ?_)|refine sq ?_|refine rg ?_|refine xc ?_|refine nl ?_
    · repeat' first|refine rs (id := 4) (fun w => Sl w uv (Us win) ∧ Sl w vv (Us v)) ?_ (fun w hw => ⟨has_sl (A := [own T64 o (Us ys), vw vv (Us v)]) hw hh, vw_sl (hw.h (vw vv (Us v)) (by (repeat (first | apply List.Mem.head | apply List.Mem.tail)); first | done | fail))⟩)|exact kc 18446744073709551615 ⟨by omega, by decide⟩ _ _ (by (repeat (refine Sub.cons rfl (by first | rfl | go_num) ?_)); exact Sub.nil) (by first | apply Fit.all | ((repeat (first | (apply Fit.nilN; (repeat (first | apply nrm_nil | apply nrm_cons)); try apply nrm_rfl) | (apply Fit.cons; focus ((repeat (first | apply Tk.here | apply Tk.there)); first | done | fail)))); first | done | fail))|(refine gc ?_; first|(refine ci (fun hB => ?_) (fun hB => ?_) <;> try (exfalso; omega)))|refine xc ?_|refine sk ?_|refine rq ?_|refine nq ?_|(refine wq ?_; first|(refine qao ?_; first|refine qaw ?_|refine qa ?_)|refine qlu ?_|refine qa ?_|refine qixmn ?_|refine qixm ?_)
      have hlt : u1 < t := by omega
      refine tka 0 ?_
      refine tka 1 ?_
      refine tk 2 (v := .pointer (some (addrAt uv v.length))) (fun w h => R_idx (E := env) (i := (v.length : Int)) rfl rfl rfl rfl h.1 ⟨Int.natCast_nonneg _, by rw [Us_len]; omega⟩) ?_
      refine tke 3 (v := Un u1) (by rw [eu1]) (fun w h => R_load (E := env) (v := Un (win.getD v.length 0)) rfl rfl rfl (h.1.cell (Us_get win v.length (by omega)))) ?_
      refine tka 4 ?_
      refine tka 5 ?_
      refine tkw 6 ((v.length : Int) - 1) ?_
      refine tk 7 (v := .pointer (some (addrAt uv ((v.length : Int) - 1).toNat))) (fun w h => R_idx (E := env) (i := (v.length : Int) - 1) rfl rfl rfl rfl h.1 ⟨by omega, by rw [Us_len]; omega⟩) ?_
      refine tke 8 (v := Un u0) (by rw [eu0]) (fun w h => R_load (E := env) (v := Un (win.getD ((v.length : Int) - 1).toNat 0)) rfl rfl rfl (h.1.cell (Us_get win ((v.length : Int) - 1).toNat (by omega)))) ?_
      refine tka 9 ?_
      refine tka 10 ?_
      refine tkw 11 ((v.length : Int) - 1) ?_
      refine tk 12 (v := .pointer (some (addrAt vv ((v.length : Int) - 1).toNat))) (fun w h => R_idx (E := env) (i := (v.length : Int) - 1) rfl rfl rfl rfl h.2 ⟨by omega, by rw [Us_len]; omega⟩) ?_
      refine tke 13 (v := Un t) (by rw [et]) (fun w h => R_load (E := env) (v := Un (v.getD ((v.length : Int) - 1).toNat 0)) rfl rfl rfl (h.2.cell (Us_get v ((v.length : Int) - 1).toNat (by omega)))) ?_
      refine t1 14 ?_
      refine ca (Div64_tr u1 u0 t bu0 bt hlt) ?_
      rintro _ _ ⟨rfl, rfl⟩
      refine nl ?_
      refine te (fun w hw => ⟨has_sl (A := [own T64 o (Us ys), vw vv (Us v)]) hw hh, vw_sl (hw.h (vw vv (Us v)) (by (repeat (first | apply List.Mem.head | apply List.Mem.tail)); first | done | fail))⟩) ?_
      refine tka 15 ?_
      refine tka 16 ?_
      refine tka 17 ?_
      refine tka 18 ?_
      refine t0 ?_
      refine xc ?_
      exact kc ((u1 * 18446744073709551616 + u0) / t) ⟨hG hlt, hGb hlt⟩ _ _ (by (repeat (refine Sub.cons rfl (by first | rfl | go_num) ?_)); exact Sub.nil) (by first | apply Fit.all | ((repeat (first | (apply Fit.nilN; (repeat (first | apply nrm_nil | apply nrm_cons)); try apply nrm_rfl) | (apply Fit.cons; focus ((repeat (first | apply Tk.here | apply Tk.there)); first | done | fail)))); first | done | fail))
end Go.Art
set_option linter.unusedSimpArgs false
set_option linter.unusedVariables false
namespace Go.Art
open Go Go.Proofs Go.RowKit
section
variable {P : Program}
theorem run_room_z (w : World) (t tn ty e : TypeId) (i : TypeInfo) (z : Value) (k kn : IntKind) (ht : P.underlying t = some (.slice e)) (htn : P.underlying tn = some (.int kn)) (hi : P.info? e = some i) (hz : i.zero = some z) (hs : i.size = 1) (hz1 : z.cells = #[z]) (ho : z.oneCell' = true)
    (g o sLen sCap : Nat) (cur : Array Value) (hg : w.heap[g]? = some (.cells cur e (0, 0))) (n : Nat) (h0 : 0 < n) (h63 : (n : Int) ≤ 9223372036854775807) (h48 : n * i.bytes ≤ 281474976710656) (hroom : sLen + n ≤ sCap) (hfit : o + sLen + n ≤ cur.size) :
    (Builtin.append_ #[t, tn] ty #[.slice (some ⟨g, o, none⟩) sLen sCap, .int k n]).run P w =
      .ok (.slice (some ⟨g, o, none⟩) (sLen + n) sCap) (w.setRow g (cur.toList.take (o + sLen) ++ List.replicate n z ++ cur.toList.drop (o + sLen + n)).toArray) := by
  have hw : IntKind.i64.wrap (n : Int) = n := by rw [IntKind.wrap_i64]; omega
  have h48i : ¬ (281474976710656 < (n : Int) * (i.bytes : Int)) := by rw [← Int.natCast_mul]; omega
  have hneg : ¬ ((n : Int) < 0) := by omega
  have hns : n ≠ 0 := by omega
  have hst := run_storeCells_at P g (o + sLen) e (List.replicate n z) 0 cur w hg (by simpa using hfit) (fun c hc => by rw [List.eq_of_mem_replicate hc]; exact ho)
  simp only [Nat.add_zero, List.length_replicate] at hst
  simp [Builtin.append_, run_underlying ht, run_underlying htn, sizeOf, typeInfo, zeroValue, hi, hz, hz1, hs, zeroCells1, asInt, asIntOf, hw, hneg, hns, h48i, hroom, Addr.add_lit, hst]
theorem run_same_z (w : World) (t tn ty e : TypeId) (i : TypeInfo) (k kn : IntKind) (ht : P.underlying t = some (.slice e)) (htn : P.underlying tn = some (.int kn)) (hi : P.info? e = some i) (b : Option Addr) (sLen sCap : Nat) (hle : sLen ≤ sCap) :
    (Builtin.append_ #[t, tn] ty #[.slice b sLen sCap, .int k 0]).run P w = .ok (.slice b sLen sCap) w := by
  have hw : IntKind.i64.wrap 0 = 0 := by rw [IntKind.wrap_i64]; omega
  cases b <;> simp [Builtin.append_, run_underlying ht, run_underlying htn, sizeOf, typeInfo, hi, asInt, asIntOf, hw, hle, storeCells]
theorem run_grow_z (w : World) (t tn ty e : TypeId) (i : TypeInfo) (z : Value) (k kn : IntKind) (ht : P.underlying t = some (.slice e)) (htn : P.underlying tn = some (.int kn)) (hi : P.info? e = some i) (hz : i.zero = some z) (hs : i.size = 1) (hz1 : z.cells = #[z])
    (b : Addr) (sLen sCap : Nat) (olds : List Value) (hlo : olds.length = sLen * i.size) (holds : ∀ j v, olds[j]? = some v → w.cell? (b.add j) = some v) (n : Nat) (h0 : 0 < n) (h63 : ((sLen + n : Nat) : Int) ≤ 9223372036854775807) (h48 : n * i.bytes ≤ 281474976710656) (hg : sCap < sLen + n) (hfit : Builtin.nextslicecap (sLen + n) sCap * i.bytes ≤ 281474976710656) :
    (Builtin.append_ #[t, tn] ty #[.slice (some b) sLen sCap, .int k n]).run P w =
      .ok (.slice (some ⟨w.heap.size, 0, none⟩) (sLen + n) (grownCap w (sLen + n) sCap e)) (w.drew.alloc (.cells (olds.toArray ++ (List.replicate n z).toArray ++ (List.replicate (grownCap w (sLen + n) sCap e - (sLen + n)) z).toArray) e)) := by
  have hn : ¬ (sLen + n ≤ sCap) := by omega
  have hw : IntKind.i64.wrap (n : Int) = n := by rw [IntKind.wrap_i64]; omega
  have h48i : ¬ (281474976710656 < (n : Int) * (i.bytes : Int)) := by rw [← Int.natCast_mul]; omega
  have hneg : ¬ ((n : Int) < 0) := by omega
  have hns : n ≠ 0 := by omega
  have h63' : ¬ (9223372036854775807 < ((sLen : Int) + (n : Int))) := by omega
  have h48' : ¬ (281474976710656 < Builtin.nextslicecap (sLen + n) sCap * i.bytes) := by omega
  have hfo := run_firstCells_some (P := P) w.drew i.size sLen b sLen sCap olds hlo (by simpa using holds)
  rw [hs] at hfo
  simp [Builtin.append_, run_underlying ht, run_underlying htn, sizeOf, typeInfo, zeroValue, hi, hz, hz1, hs, zeroCells1, asInt, asIntOf, hw, hneg, hns, h48i, hn, h63', h48', Question.forced, hfo, newRow, grownCap]
variable {E : Env P} {n : Sh} {X : Cx} {s : List K} {fr : Fr} {A A' : List Ch} {ops : Array Oper} {rest : List Oper} {d : Nat} {ty t t' : TypeId} {pos : String} {after : Array Edge} {x y : Operand} {w : World} {v u z : Value} {by_ : Nat} {xs : List Value} {e : TypeId} {k1 kn : IntKind} {m : Int}
theorem run_appendZ (t0 : TypeId) (w : World) (ht : lk E.und t = some (.slice e)) (htn : lk E.und t' = some (.int kn)) (he : lk E.inf e = some (z, 1, by_)) (hz : z.cells = #[z]) (hz1 : z.oneCell' = true) (hown : OwnO w e v xs) {k : Nat} (hl : xs.length + k ≤ 17592186044416) (hb : by_ ≤ 8) :
    ∃ v' w', (Builtin.append_ #[t, t'] t0 #[v, .int k1 k]).run P w = .ok v' w' ∧ OwnO w' e v' (xs ++ List.replicate k z) ∧ Upd w w' v.ownBlock.toList ∧ ∀ b, v'.ownBlock = some b → v.ownBlock = some b ∨ w.heap.size ≤ b := by
  obtain ⟨inf, hi, hiz, his, hib⟩ := E.info he
  have hk8 : k * inf.bytes ≤ 281474976710656 := by rw [hib]; have := Nat.mul_le_mul (show k ≤ 17592186044416 by omega) hb; omega
  have hl8 : (xs.length + k) * by_ ≤ 140737488355328 := by have := Nat.mul_le_mul hl hb; omega
  rcases Nat.eq_zero_or_pos k with rfl | hpos
  · rw [List.replicate_zero, List.append_nil]
    obtain ⟨a, c, rfl, hc, _⟩ := hown.sl
    exact ⟨_, w, run_same_z w t t' t0 e inf k1 kn (E.un ht) (E.un htn) hi a xs.length c hc, hown, Upd.refl _ _, fun _ h => .inl h⟩
  · have hupd : ∀ (o : Obj) (S : List Nat), Upd w (w.drew.alloc o) S := fun o S => ((Upd.drew w).trans (Upd.alloc w.drew o)).weak (by simp)
    rcases hown with ⟨rfl, rfl⟩ | ⟨g, o, cap, cur, rfl, hg, h2, h3, h4, h5⟩
    · have hr := Lib.run_append_nil_zeros (P := P) w t t' t0 e inf z k1 kn (E.un ht) (E.un htn) hi hiz k hpos (by rw [his]; decide) (by omega) hk8
      have hge := grownCap_ge w k 0 e
      refine ⟨_, _, hr, .inr ⟨w.heap.size, 0, grownCap w k 0 e, _, by simp, heap_alloc_new w.drew _, by simpa using hge, grownCap_le_maxLen w k 0 e (by unfold maxLen; omega), ?_, ?_⟩, hupd _ _, fun b hb => .inr (by cases hb; exact Nat.le_refl _)⟩
      · rw [hz, zeroCells1, zeroCells1]; simp; omega
      · rw [hz, zeroCells1, zeroCells1]; simp
    · by_cases hroom : xs.length + k ≤ cap
      · have hr := run_room_z w t t' t0 e inf z k1 kn (E.un ht) (E.un htn) hi hiz his hz hz1 g o xs.length cap cur hg k hpos (by omega) hk8 hroom (by omega)
        refine ⟨_, _, hr, .inr ⟨g, o, cap, _, by simp, setRow_heap w g cur _ e _ hg, by simpa using hroom, h3, ?_, ?_⟩, Upd.setRow w g _, fun _ h => .inl h⟩
        · simp only [List.size_toArray, List.length_append, List.length_take, List.length_drop, Array.length_toList, List.length_replicate]; omega
        · have hcl : cur.toList.length = cur.size := Array.length_toList
          rw [List.append_assoc, List.drop_append_of_le_length (by rw [List.length_take, hcl]; omega), show List.drop o (List.take (o + xs.length) cur.toList) = List.take xs.length (List.drop o cur.toList) by rw [List.drop_take, Nat.add_sub_cancel_left]]
          rw [h5, ← List.append_assoc]
          exact List.take_left
      · have hsl : Sl w (.slice (some ⟨g, o, none⟩) xs.length cap) xs := OwnO.sl (.inr ⟨g, o, cap, cur, rfl, hg, h2, h3, h4, h5⟩)
        have hr := run_grow_z w t t' t0 e inf z k1 kn (E.un ht) (E.un htn) hi hiz his hz ⟨g, o, none⟩ xs.length cap xs (by rw [his, Nat.mul_one]) (fun j c hj => hsl.cell hj) k hpos (by omega) hk8 (by omega) (by subst hib; exact growslice_fits (by omega) hl8)
        have hge := grownCap_ge w (xs.length + k) cap e
        refine ⟨_, _, hr, .inr ⟨w.heap.size, 0, grownCap w (xs.length + k) cap e, _, by simp, heap_alloc_new w.drew _, by simpa using hge, grownCap_le_maxLen w _ _ e (by unfold maxLen; omega), ?_, ?_⟩, hupd _ _, fun b hb => .inr (by cases hb; exact Nat.le_refl _)⟩
        · simp; omega
        · simp only [Array.toList_append, List.append_assoc, List.drop_zero]
          rw [← List.append_assoc]
          exact List.take_left
theorem apzo {k : Nat} (kk : ∀ v', TO E n X s ops rest ((d, v') :: fr) (own e v' (xs ++ List.replicate k z) :: A')) (hx : ev fr x = some v := by rfl) (hy : ev fr y = some (.int k1 (k : Int)) := by rfl) (hm : Tk (own e v xs) A A' := by (repeat (first | apply Tk.here | apply Tk.there)); first | done | fail) (hl : xs.length + k ≤ 17592186044416 := by omega)
    (ht : lk E.und t = some (.slice e) := by rfl) (htn : lk E.und t' = some (.int kn) := by rfl) (he : lk E.inf e = some (z, 1, by_) := by rfl) (hz : z.cells = #[z] := by rfl) (hz1 : z.oneCell' = true := by rfl) (hb : by_ ≤ 8 := by decide) (hd : Nat.blt d n.n = true := by rfl) :
    TO E n X s ops (⟨some d, .call ⟨.builtin .append, #[x, y], #[t, t']⟩, ty, pos, after, none⟩ :: rest) fr A := ⟨fun w hw => by
  have h2 := hw.im hm
  have h3 : OwnO w e v xs := h2.mem (List.Mem.head _)
  obtain ⟨v', w', hr, hO, hU, hW⟩ := run_appendZ (P := P) (k1 := k1) ty w ht htn he hz hz1 h3 hl hb
  refine SO_v hd (w' := w') (v := v') ⟨fun a ha' _ _ _ _ => ?_⟩ ((kk v').run w' (h2.set hU (fun b hb => .inl (by show v.ownBlock = some b; simpa using hb)) hO ?_ (fun _ h => h)))
  · simp only [execOp, resolve]
    simp [ha'.ev hx, ha'.ev hy, invoke, builtin, hr]
  · rintro b (hb' | hb' | hb')
    · exact hW b hb'
    · exact hb'.elim
    · exact hb'.elim⟩
end
end Go.Art
set_option linter.unusedSimpArgs false
set_option linter.unusedVariables false
namespace Go.Art
open Go Go.Proofs Go.RowKit
theorem dg_len_pos {n : Nat} (h : n ≠ 0) : 1 ≤ (dg n).length := by
  cases h1 : dg n with
  | nil => exact absurd (dg_nil.1 h1) h
  | cons => simp
theorem dg_mono {m n : Nat} (h : m ≤ n) : (dg m).length ≤ (dg n).length := (dg_len _ _).2 (Nat.lt_of_le_of_lt h ((dg_len n _).1 (Nat.le_refl _)))
theorem top_bounds {n : Nat} (h : n ≠ 0) : (dg n).getD ((dg n).length - 1) 0 * 18446744073709551616 ^ ((dg n).length - 1) ≤ n ∧ n < ((dg n).getD ((dg n).length - 1) 0 + 1) * 18446744073709551616 ^ ((dg n).length - 1) := by
  have h0 := dg_len_pos h
  have h1 := nv_cut (dg n) ((dg n).length - 1)
  rw [nv_step, show (dg n).length - 1 + 1 = (dg n).length by omega, List.drop_eq_nil_of_le (Nat.le_refl _), nv_dg] at h1
  simp only [nv, Nat.mul_zero, Nat.add_zero] at h1
  have h2 := nv_low (Dg_dg n) ((dg n).length - 1)
  rw [Nat.mul_comm] at h1
  rw [Nat.add_mul, Nat.one_mul]
  omega
theorem div_case {N p V s a b : Nat} (hV : V = b * 2 ^ s) (hU : p + N * V = a * 2 ^ s) (hp : p < V) : N = a / b ∧ p / 2 ^ s = a % b := by
  have hg : 0 < 2 ^ s := Nat.pow_pos (by decide)
  have hdu := div_up (a := a) (y := b) (p := 2 ^ s) hg
  rw [← hU, ← hV] at hdu
  have h1 : (p + N * V) / V = N := by rw [Nat.add_mul_div_right _ _ (by omega), Nat.div_eq_of_lt hp, Nat.zero_add]
  have h2 : (p + N * V) % V = p := by rw [Nat.add_mul_mod_self_right, Nat.mod_eq_of_lt hp]
  rw [h1, h2] at hdu
  exact ⟨hdu.1, by rw [hdu.2]; exact Nat.mul_div_cancel _ hg⟩
attribute [local irreducible] Fit pt own ro vw mpc lpt vels rels mow lrc dfr
abbrev DivR (na nb : Nat) (u : Value) (D : List Ch) : Prop := ∃ q r, u = tup3 q r (I 0) ∧ q.oneCell' = true ∧ r.oneCell' = true ∧ D = [own T64 q (Us (dg (na / nb))), own T64 r (Us (dg (na % nb)))]
theorem DivLt_tr (va vb : Value) (a b : List Nat) (ha : Dg a) (hb : Dg b) (hla : a.length ≤ 549755813888) (hlb : b.length ≤ 549755813888) (hlt : nv a < nv b) : Tr Tryz.prog 149 [va, vb] [vw va (Us a), vw vb (Us b)] [] (DivR (nv a) (nv b)) := by
  have hb0 : (dg (nv b)).length ≠ 0 := by have := dg_len_pos (n := nv b) (by omega); omega
  have hc : cmpN (nv (dg (nv a))) (nv (dg (nv b))) < 0 := by rw [nv_dg, nv_dg, cmpN_lt]; exact hlt
  have e1 : nv a / nv b = 0 := Nat.div_eq_of_lt hlt
  have e2 : nv a % nv b = nv a := Nat.mod_eq_of_lt hlt
  unfold DivR
  rw [e1, e2, dg_zero]
  refine Tr.enter env _ Tryz.func149 (by kernel_rfl) rfl Tryz.ntmps149 rfl (by repeat (first | exact has00 | refine has01 ?_)) fun w0 => ?_
  repeat' first|(refine gca ?_; first|(refine ca (Trim_tr va a ha (by omega)) ?_; rintro u1 _ ⟨hu1, rfl⟩)|(refine ca (Trim_tr vb b hb (by omega)) ?_; rintro u2 _ ⟨hu2, rfl⟩)|(refine ca (Cmp_tr u1 u2 _ _ (Dg_dg (nv a)) (Dg_dg (nv b))) ?_; rintro _ _ ⟨rfl, rfl⟩))|(refine wo ?_; first|(refine ao ?_; first|refine oa ?_)|refine oa ?_|refine lnm ?_)|(refine gc ?_; first|(refine ci (fun hB => ?_) (fun hB => ?_) <;> try (exfalso; omega)))|refine sq ?_|refine rg ?_|refine xc ?_|refine nl ?_|refine bk ?_|refine rt ?_
  refine TX.im (own_nil T64 _) ?_
  exact r3 ⟨_, _, rfl, rfl, hu1, rfl⟩
theorem DivOne_tr (va vb : Value) (a b : List Nat) (ha : Dg a) (hb : Dg b) (hla : a.length ≤ 549755813888) (hlb : b.length ≤ 549755813888) (hge : nv b ≤ nv a) (hb0 : nv b ≠ 0) (hb1 : nv b < 18446744073709551616) : Tr Tryz.prog 149 [va, vb] [vw va (Us a), vw vb (Us b)] [] (DivR (nv a) (nv b)) := by
  have hc : ¬ cmpN (nv (dg (nv a))) (nv (dg (nv b))) < 0 := by rw [nv_dg, nv_dg, cmpN_lt]; omega
  have e1 : dg (nv b) = [nv b] := dg_one hb1 hb0
  have e2 : (dg (nv b)).length = 1 := by rw [e1]; rfl
  have e3 : (dg (nv b)).getD 0 0 = nv b := by rw [e1]; rfl
  have hml : nv a % nv b < 18446744073709551616 := Nat.lt_trans (Nat.mod_lt _ (by omega)) hb1
  have hpl := dg_len_le ha
  have hP := fun u1 => Part_tr u1 (dg (nv a)) (nv b) (Dg_dg _) hb1 hb0 (by omega)
  unfold DivR
  simp only [nv_dg] at hP
  obtain ⟨rm, hrm⟩ : ∃ rm, rm = nv a % nv b := ⟨_, rfl⟩
  rw [← hrm] at hml ⊢
  simp only [← hrm] at hP
  refine Tr.enter env _ Tryz.func149 (by kernel_rfl) rfl Tryz.ntmps149 rfl (by repeat (first | exact has00 | refine has01 ?_)) fun w0 => ?_
  repeat' first|(refine gca ?_; first|(refine ca (Trim_tr va a ha (by omega)) ?_; rintro u1 _ ⟨hu1, rfl⟩)|(refine ca (Trim_tr vb b hb (by omega)) ?_; rintro u2 _ ⟨hu2, rfl⟩)|(refine ca (Cmp_tr u1 u2 _ _ (Dg_dg (nv a)) (Dg_dg (nv b))) ?_; rintro _ _ ⟨rfl, rfl⟩)|(refine ca (hP u1) ?_; rintro _ _ ⟨q, rfl, hq, rfl⟩)|(refine ca (Of_tr rm hml) ?_; rintro r _ ⟨hr, rfl⟩))|refine lue e3 ?_|(refine wo ?_; first|(refine ao ?_; first|refine oa ?_)|refine oa ?_|refine lnm ?_|refine ixm ?_)|(refine gc ?_; first|(refine ci (fun hB => ?_) (fun hB => ?_) <;> try (exfalso; omega)))|refine sq ?_|refine rg ?_|refine xc ?_|refine nl ?_|refine bk ?_|refine rt ?_
  exact r3 ⟨_, _, rfl, hq, hr, rfl⟩
set_option maxHeartbeats 1000000 in
theorem DivMain_tr (va vb : Value) (a b : List Nat) (ha : Dg a) (hb : Dg b) (hla : a.length ≤ 549755813888) (hlb : b.length ≤ 549755813888) (hge : nv b ≤ nv a) (hb1 : 18446744073709551616 ≤ nv b) : Tr Tryz.prog 149 [va, vb] [vw va (Us a), vw vb (Us b)] [] (DivR (nv a) (nv b)) := by
  have hc : ¬ cmpN (nv (dg (nv a))) (nv (dg (nv b))) < 0 := by rw [nv_dg, nv_dg, cmpN_lt]; omega
  have hb0 : nv b ≠ 0 := by omega
  have hal := dg_len_le ha
  have hbl := dg_len_le hb
  have hba := dg_mono hge
  obtain ⟨na, hna⟩ : ∃ na, na = nv a := ⟨_, rfl⟩
  obtain ⟨nb, hnb⟩ : ∃ nb, nb = nv b := ⟨_, rfl⟩
  have hTa := fun h => Trim_tr va a ha h
  have hTb := fun h => Trim_tr vb b hb h
  rw [← hna] at hge hal hba hTa hc ⊢
  rw [← hnb] at hge hb1 hb0 hbl hba hTb hc ⊢
  obtain ⟨x, hx⟩ : ∃ x, x = dg na := ⟨_, rfl⟩
  obtain ⟨y, hy⟩ : ∃ y, y = dg nb := ⟨_, rfl⟩
  have hxd : Dg x := by rw [hx]; exact Dg_dg _
  have hyd : Dg y := by rw [hy]; exact Dg_dg _
  have hy2 : 2 ≤ y.length := by
    rcases Nat.lt_or_ge y.length 2 with h | h
    · have := (dg_len nb 1).1 (by rw [← hy]; omega)
      omega
    · exact h
  have hty := Tm.top (Tm_dg nb) (by rw [← hy]; omega)
  have htb := top_bounds hb0
  have hnaL := (dg_len na x.length).1 (by rw [hx]; exact Nat.le_refl _)
  have hxl0 : 1 ≤ x.length := by rw [hx]; exact dg_len_pos (by omega)
  rw [← hx] at hal hba hTa hc
  rw [← hy] at hbl hba hTb hc hty htb
  have htd : y.getD (y.length - 1) 0 < 18446744073709551616 := hyd.getD _
  have hge2 : ((y.length : Int) - 1).toNat = y.length - 1 := by omega
  obtain ⟨top, htop⟩ : ∃ top, y.getD ((y.length : Int) - 1).toNat 0 = top := ⟨_, rfl⟩
  have htop2 := htop
  rw [hge2] at htop2
  rw [htop2] at hty htb htd
  obtain ⟨s, hs, hse, hV1, hV2⟩ := lz_ex top htd hty
  have hLZ := LZ64_tr top htd
  rw [hse] at hLZ
  have hg : 0 < 2 ^ s := Nat.pow_pos (by decide)
  -- the divisor and the dividend, moved
  obtain ⟨V, hV⟩ : ∃ V, V = nb * 2 ^ s := ⟨_, rfl⟩
  obtain ⟨U, hU⟩ : ∃ U, U = na * 2 ^ s := ⟨_, rfl⟩
  have hUpV := fun v1 => NUp_tr v1 nb s hs hb0 (by rw [← hy]; omega)
  have hUpU := fun v1 => NUp_tr v1 na s hs (by omega) (by rw [← hx]; omega)
  rw [← hV] at hUpV
  rw [← hU] at hUpU
  simp only [← hy] at hUpV
  simp only [← hx] at hUpU
  have hVlow : 9223372036854775808 * 18446744073709551616 ^ (y.length - 1) ≤ V := by
    rw [hV]
    refine Nat.le_trans (Nat.mul_le_mul_right _ hV1) ?_
    rw [Nat.mul_right_comm]
    exact Nat.mul_le_mul_right _ htb.1
  have hVhigh : V < 18446744073709551616 ^ y.length := by
    have h1 : (top + 1) * 2 ^ s ≤ 18446744073709551616 := by
      have hsp := pow_split (s := s) (by omega)
      rw [← hsp] at hV2 ⊢
      have := Nat.lt_of_mul_lt_mul_right hV2
      exact Nat.mul_le_mul_right _ this
    have h2 : nb * 2 ^ s < (top + 1) * 18446744073709551616 ^ (y.length - 1) * 2 ^ s := Nat.mul_lt_mul_of_pos_right htb.2 hg
    rw [hV]
    refine Nat.lt_of_lt_of_le h2 ?_
    rw [Nat.mul_right_comm]
    refine Nat.le_trans (Nat.mul_le_mul_right _ h1) ?_
    rw [Nat.mul_comm, ← Nat.pow_succ]
    exact Nat.pow_le_pow_right (by decide) (by omega)
  have hs63 : 2 ^ s ≤ 9223372036854775808 := Nat.pow_le_pow_right (n := 2) (by decide) (show s ≤ 63 from hs)
  obtain ⟨v, hv⟩ : ∃ v, v = dg V := ⟨_, rfl⟩
  have hvn : nv v = V := by rw [hv, nv_dg]
  have hvd : Dg v := by rw [hv]; exact Dg_dg _
  have hvl : v.length = y.length := by
    refine Nat.le_antisymm ?_ ?_
    · rw [hv]; exact (dg_len _ _).2 hVhigh
    · rcases Nat.lt_or_ge v.length y.length with h | h
      · have h1 := (dg_len V (y.length - 1)).1 (by rw [← hv]; omega)
        have h2 : 18446744073709551616 ^ (y.length - 1) ≤ 9223372036854775808 * 18446744073709551616 ^ (y.length - 1) := Nat.le_mul_of_pos_left _ (by decide)
        omega
      · exact h
  have hvt : v.getD (v.length - 1) 0 ≠ 0 := by rw [hv]; exact (Tm_dg V).top (by rw [← hv]; omega)
  have hUhigh : U < 18446744073709551616 ^ x.length * 9223372036854775808 := by
    rw [hU]; exact Nat.lt_of_lt_of_le (Nat.mul_lt_mul_of_pos_right hnaL hg) (Nat.mul_le_mul_left _ hs63)
  have hUl : (dg U).length ≤ x.length + 1 := (dg_len _ _).2 (by
    rw [Nat.pow_succ]; exact Nat.lt_of_lt_of_le hUhigh (Nat.mul_le_mul_left _ (by decide)))
  obtain ⟨k, hk⟩ : ∃ k : Nat, (x.length : Int) + 1 - ((dg U).length : Int) = k := ⟨x.length + 1 - (dg U).length, by omega⟩
  obtain ⟨p, hp⟩ : ∃ p : Nat, (x.length : Int) - (y.length : Int) + 1 = p := ⟨x.length - y.length + 1, by omega⟩
  have hpl : p + y.length = x.length + 1 := by omega
  obtain ⟨us, hus⟩ : ∃ us, us = dg U ++ List.replicate k 0 := ⟨_, rfl⟩
  have husn : nv us = U := by rw [hus, nv_app, nv_rep, nv_dg, Nat.mul_zero, Nat.add_zero]
  have husd : Dg us := by rw [hus]; exact (Dg_dg _).app (Dg.rep _)
  have husl : us.length = x.length + 1 := by rw [hus, List.length_append, List.length_replicate]; omega
  have husU : Us (dg U) ++ List.replicate k (Un 0) = Us us := by rw [Us_rep, ← Us_app, hus]
  have hstart : nv (us.drop p) < V := by
    have h1 := nv_cut us p
    rw [husn] at h1
    have h2 : 18446744073709551616 ^ x.length * 9223372036854775808 = 18446744073709551616 ^ p * (9223372036854775808 * 18446744073709551616 ^ (y.length - 1)) := by
      rw [show x.length = p + (y.length - 1) by omega, Nat.pow_add, Nat.mul_assoc, Nat.mul_comm 9223372036854775808]
    rw [h2] at hUhigh
    have h3 : 18446744073709551616 ^ p * nv (us.drop p) < 18446744073709551616 ^ p * (9223372036854775808 * 18446744073709551616 ^ (y.length - 1)) := by omega
    exact Nat.lt_of_lt_of_le (Nat.lt_of_mul_lt_mul_left h3) hVlow
  obtain ⟨qs, hqs⟩ : ∃ qs, qs = List.replicate p 0 := ⟨_, rfl⟩
  have hqsl : qs.length = p := by rw [hqs, List.length_replicate]
  have hqsd : Dg qs := by rw [hqs]; exact Dg.rep _
  rw [← hv] at hUpV
  have hcase := fun N q => div_case (N := N) (p := q) (V := V) (s := s) (a := na) (b := nb) hV
  rw [← hU] at hcase
  have hxle : x.length ≤ 549755813888 := by omega
  have pk : Unit → (nv us = U ∧ nv v = V ∧ v.getD (v.length - 1) 0 ≠ 0 ∧ V < 18446744073709551616 ^ y.length ∧ nv (us.drop p) < V) := fun _ => ⟨husn, hvn, hvt, hVhigh, hstart⟩
  clear hUhigh hVlow htb hV1 hV2 hnaL hV hU hx hy hs63 hv hna hnb htop2 hty husn hvn hvt hVhigh hstart hg hse hge hb1 hb0
  refine Tr.enter env _ Tryz.func149 (by kernel_rfl) rfl Tryz.ntmps149 rfl (by repeat (first | exact has00 | refine has01 ?_)) fun w0 => ?_
  repeat' first|(refine gca ?_; first|(refine ca (hTa (by omega)) ?_; rintro u1 _ ⟨hu1, rfl⟩)|(refine ca (hTb (by omega)) ?_; rintro u2 _ ⟨hu2, rfl⟩)|(refine ca (Cmp_tr u1 u2 x y hxd hyd) ?_; rintro _ _ ⟨rfl, rfl⟩)|(refine ca hLZ ?_; rintro _ _ ⟨rfl, rfl⟩)|(refine ca (hUpV u2) ?_; rintro _ _ ⟨vv, rfl, hvv, rfl⟩)|(refine ca (hUpU u1) ?_; rintro _ _ ⟨uu, rfl, huu, rfl⟩))|refine lue htop ?_|(refine aw ?_; rw [hk])|(refine aw ?_; rw [hp])|(refine apzo (k := k) (xs := Us (dg U)) (z := Un 0) (hl := by rw [Us_len]; omega) fun o => ?_; rw [husU])|(refine mku fun qv => ?_; rw [Int.toNat_natCast, ← hqs])|(refine wo ?_; first|(refine ao ?_; first|refine aw ?_|refine oa ?_)|refine oa ?_|refine lnm ?_|refine ixm ?_)|(refine gc ?_; first|(refine ci (fun hB => ?_) (fun hB => ?_) <;> try (exfalso; omega)))|refine sq ?_|refine rg ?_|refine xc ?_|refine nl ?_|refine sk ?_|refine bk ?_|refine xb ?_
  obtain ⟨husn, hvn, hvt, hVhigh, hstart⟩ := pk ()
  refine TC.loop (ι := Int × List Nat × List Nat) (fun i => [(16, I i.1)]) (fun i => [own T64 o (Us i.2.1), own T64 qv (Us i.2.2)])
    (fun i => i.2.1.length = x.length + 1 ∧ i.2.2.length = p ∧ Dg i.2.1 ∧ Dg i.2.2 ∧ -1 ≤ i.1 ∧ i.1 < p ∧ nv i.2.1 + 18446744073709551616 ^ (i.1 + 1).toNat * nv (i.2.2.drop (i.1 + 1).toNat) * V = U ∧ nv (i.2.1.drop (i.1 + 1).toNat) < V)
    (fun i => (i.1 + 1).toNat) ((qs.length : Int) - 1, us, qs) [10, 11, 13, 15] ⟨husl, hqsl, husd, hqsd, by dsimp only; omega, by dsimp only; omega, ?_, ?_⟩ ?_
  · dsimp only
    rw [show ((qs.length : Int) - 1 + 1).toNat = qs.length by omega, List.drop_eq_nil_of_le (Nat.le_refl _), husn]; simp [nv]
  · dsimp only
    rw [show ((qs.length : Int) - 1 + 1).toNat = p by omega]; exact hstart
  clear hstart hUpV hUpU hLZ hTa hTb hc husU hus husn husd husl hqs hqsl hqsd htop hk hp hge2 hUl hal hbl hxl0 pk hla hlb
  rintro ⟨ji, ys, ws⟩ ⟨h1, h2, h3, h4, h5, h6, hI, hR⟩
  dsimp only at h1 h2 h3 h4 h5 h6 hI hR ⊢
  by_cases hj : 0 ≤ ji
  · obtain ⟨j, rfl⟩ : ∃ j : Nat, ji = j := ⟨ji.toNat, by omega⟩
    rw [show ((j : Int) + 1).toNat = j + 1 by omega] at hI hR
    have hjl : j + v.length + 1 ≤ ys.length := by omega
    have hVb : V < 18446744073709551616 ^ v.length := by rw [hvl]; exact hVhigh
    have hz : nv (ys.drop (j + v.length + 1)) = 0 := by
      have h := nv_cut (ys.drop (j + 1)) v.length
      rw [List.drop_drop, show j + 1 + v.length = j + v.length + 1 by omega] at h
      rcases Nat.eq_zero_or_pos (nv (ys.drop (j + v.length + 1))) with h0 | h0
      · exact h0
      · have := Nat.mul_le_mul_left (18446744073709551616 ^ v.length) h0
        omega
    have hW := win_facts (ys := ys) (j := j) (n := v.length) hjl
    have hWd : nv (ys.drop j) = nv ((ys.take (j + v.length + 1)).drop j) := by
      have h := nv_cut (ys.drop j) (v.length + 1)
      rw [List.drop_drop, List.take_drop, show j + (v.length + 1) = j + v.length + 1 by omega, hz, Nat.mul_zero, Nat.add_zero] at h
      exact h
    have hys := nv_step ys j
    have hyj := h3.getD j
    have hwB : nv ((ys.take (j + v.length + 1)).drop j) < nv v * 18446744073709551616 := by
      rw [← hWd, hys, hvn]
      have := Nat.mul_le_mul_left 18446744073709551616 hR
      rw [Nat.mul_succ, Nat.mul_comm _ V] at this
      omega
    have hst := step_tr o vv ys v j h3 hvd (by omega) hvt hjl (by omega) hwB
    rw [hvn] at hst
    obtain ⟨w, hw⟩ : ∃ w, w = nv ((ys.take (j + v.length + 1)).drop j) := ⟨_, rfl⟩
    rw [← hw] at hst hW hWd
    have hV0 : 0 < V := by omega
    have hrl : (dg (w % V)).length ≤ v.length + 1 := Nat.le_trans ((dg_len _ _).2 (Nat.lt_trans (Nat.mod_lt _ hV0) hVb)) (by omega)
    obtain ⟨s1, s2, s3, s4⟩ := stepL_facts hrl hjl h3 (Dg_dg (w % V))
    rw [hz, Nat.mul_zero, Nat.add_zero, nv_dg] at s3 s4
    rw [hz, Nat.mul_zero, Nat.add_zero] at hW
    have hq := nv_set_drop ws j (w / V) (by omega)
    have hqb : w / V < 18446744073709551616 := by
      rw [Nat.div_lt_iff_lt_mul hV0, Nat.mul_comm, ← hvn, hw]; exact hwB
    have hmV : w % V < V := Nat.mod_lt _ hV0
    have hfin : nv (stepL ys j v.length (dg (w % V))) + 18446744073709551616 ^ j * nv ((ws.set j (w / V)).drop j) * V = U := by
      have h := Nat.div_add_mod w V
      rw [s3, hq, ← hI, hW, Nat.pow_succ]
      rw [Nat.mul_add, Nat.add_mul, show 18446744073709551616 ^ j * (18446744073709551616 * nv (ws.drop (j + 1))) * V = 18446744073709551616 ^ j * 18446744073709551616 * nv (ws.drop (j + 1)) * V by ac_rfl]
      have h' := congrArg (18446744073709551616 ^ j * ·) h
      simp only [Nat.mul_add] at h'
      rw [show 18446744073709551616 ^ j * (w / V) * V = 18446744073709551616 ^ j * (V * (w / V)) by ac_rfl]
      omega
    obtain ⟨qd, hqd⟩ : ∃ qd, qd = w / V := ⟨_, rfl⟩
    obtain ⟨zs, hzs⟩ : ∃ zs, zs = stepL ys j v.length (dg (w % V)) := ⟨_, rfl⟩
    rw [← hqd] at hst hfin hqb
    rw [← hzs] at hst hfin s1 s2 s4
    have pk2 : Unit → (nv zs + 18446744073709551616 ^ j * nv ((ws.set j qd).drop j) * V = U ∧ nv (zs.drop j) < V) := fun _ => ⟨hfin, by rw [s4]; exact hmV⟩
    clear hqd hzs hq s3 hrl hw hW hWd hys hwB hz hI hR hVb hvt hfin s4 hmV hVhigh hvn hV0 hyj
    repeat' first|(refine gca ?_; first|(refine ca hst ?_; rintro _ _ ⟨rfl, rfl⟩))|refine sou ?_|(refine aw ?_; rw [show (j : Int) + (v.length : Int) + 1 = ((j + v.length + 1 : Nat) : Int) by omega])|(refine wo ?_; first|(refine ao ?_; first|refine aw ?_|refine oa ?_)|refine oa ?_|refine lnm ?_|refine ixmn ?_|refine scm ?_)|(refine gc ?_; first|refine ct ?_)|refine sq ?_|refine rg ?_|refine xc ?_|refine nl ?_|refine sk ?_|refine bk ?_|refine xb ?_
    exact lp ((j : Int) - 1, zs, ws.set j qd) ⟨by dsimp only; omega, by dsimp only; rw [List.length_set]; exact h2, s2, h4.set hqb, by dsimp only; omega, by dsimp only; omega, by dsimp only; rw [show ((j : Int) - 1 + 1).toNat = j by omega]; exact (pk2 ()).1, by dsimp only; rw [show ((j : Int) - 1 + 1).toNat = j by omega]; exact (pk2 ()).2⟩
  · obtain rfl : ji = -1 := by omega
    rw [show ((-1 : Int) + 1).toNat = 0 from rfl, List.drop_zero, Nat.pow_zero, Nat.one_mul] at hI
    rw [show ((-1 : Int) + 1).toNat = 0 from rfl, List.drop_zero] at hR
    obtain ⟨c1, c2⟩ := hcase _ _ hI hR
    unfold DivR
    rw [← c1, ← c2]
    have hyl := dg_len_le h3
    have hDn := fun v1 => NDown_tr v1 (dg (nv ys)) s hs (Dg_dg _) (by omega)
    simp only [nv_dg] at hDn
    repeat' first|(refine gca ?_; first|(refine ca (Trim_tr o ys h3 (by omega)) ?_; rintro o2 _ ⟨ho2, rfl⟩)|(refine ca (Trim_tr qv ws h4 (by omega)) ?_; rintro q2 _ ⟨hq2, rfl⟩)|(refine ca (hDn o2) ?_; rintro _ _ ⟨lf, rfl, hlf, rfl⟩))|(refine wo ?_; first|(refine ao ?_; first|refine oa ?_)|refine oa ?_)|(refine gc ?_; first|refine cf ?_)|refine sq ?_|refine rg ?_|refine xc ?_|refine nl ?_|refine xe ?_|refine rt ?_
    exact r3 ⟨q2, lf, rfl, hq2, hlf, rfl⟩
end Go.Art
set_option linter.unusedSimpArgs false
set_option linter.unusedVariables false
namespace Go.Art
open Go Go.Proofs Go.RowKit
attribute [local irreducible] Fit pt own ro vw mpc lpt vels rels mow lrc dfr
theorem NDiv_tr (va vb : Value) (a b : List Nat) (ha : Dg a) (hb : Dg b) (hla : a.length ≤ 549755813888) (hlb : b.length ≤ 549755813888) (hb0 : nv b ≠ 0) : Tr Tryz.prog 149 [va, vb] [vw va (Us a), vw vb (Us b)] [] (DivR (nv a) (nv b)) := by
  rcases Nat.lt_or_ge (nv a) (nv b) with h | h
  · exact DivLt_tr va vb a b ha hb hla hlb h
  · rcases Nat.lt_or_ge (nv b) 18446744073709551616 with h1 | h1
    · exact DivOne_tr va vb a b ha hb hla hlb h hb0 h1
    · exact DivMain_tr va vb a b ha hb hla hlb h h1
theorem NGcd_tr (va vb : Value) (a b : List Nat) (ha : Dg a) (hb : Dg b) (hla : a.length ≤ 549755813888) (hlb : b.length ≤ 549755813888) : Tr Tryz.prog 125 [va, vb] [vw va (Us a), vw vb (Us b)] [] fun u D => u.oneCell' = true ∧ D = [own T64 u (Us (dg (Nat.gcd (nv a) (nv b))))] := by
  have h1 := dg_len_le ha
  have h2 := dg_len_le hb
  obtain ⟨na, hna⟩ : ∃ na, na = nv a := ⟨_, rfl⟩
  obtain ⟨nb, hnb⟩ : ∃ nb, nb = nv b := ⟨_, rfl⟩
  have hTa := Trim_tr va a ha (by omega)
  have hTb := Trim_tr vb b hb (by omega)
  rw [← hna] at h1 hTa ⊢
  rw [← hnb] at h2 hTb ⊢
  clear hna hnb
  refine Tr.enter env _ Tryz.func125 (by kernel_rfl) rfl Tryz.ntmps125 rfl (by repeat (first | exact has00 | refine has01 ?_)) fun w0 => ?_
  repeat' first|(refine gca ?_; first|(refine ca hTa ?_; rintro u1 _ ⟨hu1, rfl⟩)|(refine ca hTb ?_; rintro u2 _ ⟨hu2, rfl⟩))|(refine wo ?_; first|refine oa ?_)|refine sq ?_|refine rg ?_|refine xc ?_|refine nl ?_|refine bk ?_
  refine TC.loop (ι := Nat × Nat × Value × Value) (fun k => [(0, k.2.2.1), (1, k.2.2.2)]) (fun k => [own T64 k.2.2.1 (Us (dg k.1)), own T64 k.2.2.2 (Us (dg k.2.1))]) (fun k => (dg k.1).length ≤ 549755813888 ∧ (dg k.2.1).length ≤ 549755813888 ∧ Nat.gcd k.1 k.2.1 = Nat.gcd na nb ∧ k.2.2.1.oneCell' = true ∧ k.2.2.2.oneCell' = true) (fun k => k.2.1) (na, nb, u1, u2) [] ⟨by dsimp only; omega, by dsimp only; omega, rfl, hu1, hu2⟩ ?_
  rintro ⟨p, q, v1, v2⟩ ⟨g1, g2, g3, g4, g5⟩
  dsimp only at g1 g2 g3 g4 g5 ⊢
  by_cases hq : q = 0
  · subst hq
    have hl : (dg 0).length = 0 := by rw [dg_zero]; rfl
    rw [Nat.gcd_zero_right] at g3
    rw [← g3]
    repeat' first|(refine wo ?_; first|(refine ao ?_; first|refine oa ?_)|refine oa ?_|refine lnm ?_)|(refine gc ?_; first|(refine ci (fun hB => ?_) (fun hB => ?_) <;> try (exfalso; omega)))|refine sq ?_|refine rg ?_|refine xc ?_|refine nl ?_|refine xe ?_|refine rt ?_
    exact r1 ⟨g4, rfl⟩
  · have hl := dg_len_pos hq
    have hD := NDiv_tr v1 v2 (dg p) (dg q) (Dg_dg p) (Dg_dg q) g1 g2 (by rw [nv_dg]; exact hq)
    rw [nv_dg, nv_dg] at hD
    have hm : p % q < q := Nat.mod_lt _ (by omega)
    have hml := Nat.le_trans (dg_mono (Nat.le_of_lt hm)) g2
    have hg : Nat.gcd q (p % q) = Nat.gcd na nb := by rw [← g3, Nat.gcd_comm p q, Nat.gcd_rec q p, Nat.gcd_comm]
    obtain ⟨r, hr⟩ : ∃ r, r = p % q := ⟨_, rfl⟩
    unfold DivR at hD
    rw [← hr] at hm hml hg hD
    repeat' first|(refine gca ?_; first|(refine ca hD ?_; rintro _ _ ⟨qv, rv, rfl, hqv, hrv, rfl⟩))|(refine wo ?_; first|(refine ao ?_; first|refine oa ?_)|refine oa ?_|refine lnm ?_)|(refine gc ?_; first|(refine ci (fun hB => ?_) (fun hB => ?_) <;> try (exfalso; omega)))|refine sq ?_|refine rg ?_|refine xc ?_|refine nl ?_|refine sk ?_|refine bk ?_|refine xb ?_
    exact lp (q, r, v2, rv) ⟨g2, hml, hg, g5, hrv⟩
end Go.Art
set_option linter.unusedSimpArgs false
set_option linter.unusedVariables false
namespace Go.Art
open Go Go.Proofs Go.RowKit
theorem nv_cmp_lt {a b : List Nat} (ha : Dg a) {j : Nat} (h : nv (a.drop (j + 1)) = nv (b.drop (j + 1))) (hx : a.getD j 0 < b.getD j 0) : nv a < nv b := by
  refine nv_lt_of ha j ?_
  rw [nv_step a j, nv_step b j, h]
  omega
theorem Dg.snoc {l : List Nat} {x : Nat} (h : Dg l) (hx : x < 18446744073709551616) : Dg (l ++ [x]) := h.app (Dg.one hx)
structure NaG where
  i : Nat
  c : Nat
  o : Value
  ys : List Nat
attribute [local irreducible] Fit pt own ro vw mpc lpt vels rels mow lrc dfr
theorem RTrim_tr (v : Value) (l : List Nat) (hd : Dg l) (hl : l.length ≤ 17592186044416) : Tr Tryz.prog 85 [v] [vw v (Us l)] [] fun u D => u.oneCell' = true ∧ D = [own T64 u (Us (dg (nv l)))] := by
  refine Tr.enter env _ Tryz.func85 (by kernel_rfl) rfl Tryz.ntmps85 rfl (by repeat (first | exact has00 | refine has01 ?_)) fun w0 => ?_
  refine TC.fact (p := slSub v 0 l.length = v) (fun w hw => by have := slSub_all (vw_sl (hw.h (vw v (Us l)) (List.Mem.head _))); rwa [Us_len] at this) fun hv => ?_
  refine TC.lenu (v := v) (l := l) fun hlen => ?_
  repeat' first|(refine wo ?_; first|refine oa ?_)|refine sq ?_|refine rg ?_|refine xc ?_|refine nl ?_|refine bk ?_
  refine TC.loop (ι := Nat × Value) (fun i => [(0, i.2)]) (fun _ => []) (fun i => i.1 ≤ l.length ∧ i.2 = slSub v 0 i.1 ∧ nv (l.drop i.1) = 0) (fun i => i.1) (l.length, v) [] ⟨Nat.le_refl _, hv.symm, by simp [nv]⟩ ?_
  rintro ⟨k, u⟩ ⟨h1, h2, h3⟩
  dsimp only at h1 h2 h3 ⊢
  obtain ⟨m, hm⟩ : ∃ m, m = l.take k := ⟨_, rfl⟩
  have hu : Has [vw v (Us l)] (vw u (Us m)) := by rw [h2, hm]; exact has_take (has_vw (List.Mem.head _)) h1
  have hkl : m.length = k := by rw [hm]; simp; omega
  have hge : ((m.length : Int) - 1).toNat = k - 1 := by omega
  have hT : m.length = 0 ∨ m.getD (((m.length : Int) - 1).toNat) 0 ≠ 0 → m = dg (nv l) := fun h => by
    have ht : Tm (l.take k) := by
      rw [← hm]; refine Tm_of (h.imp List.eq_nil_of_length_eq_zero fun h => ?_)
      rwa [hge, ← hkl] at h
    rw [hm, ← dg_top hd h3, dg_nv (hd.take k) ht]
  have hZ : 0 < k → m.getD (((m.length : Int) - 1).toNat) 0 = 0 → nv (l.drop (k - 1)) = 0 := fun h0 h => by
    have := nv_step l (k - 1)
    rw [show k - 1 + 1 = k by omega, h3, Nat.mul_zero, Nat.add_zero] at this
    refine this.trans (Eq.trans ?_ h)
    rw [hge, hm, List.getD_eq_getElem?_getD, List.getD_eq_getElem?_getD, List.getElem?_take, if_pos (by omega)]
  have hN : ∀ m, slSub u 0 m = slSub v 0 m := fun m => by rw [h2, slSub_sub]
  refine TC.im (B := [vw v (Us l)]) (Im.refl _) ?_
  repeat' first|(refine sl0 fun o => ?_)|(refine apu (l := []) (news := m) (fun o => ?_); refine TO.one (v := o) (xs := Us ([] ++ m)) fun ho => ?_)|(refine wo ?_; first|(refine ao ?_; first|refine aw ?_|refine oa ?_)|refine lu ?_|refine oa ?_|refine lnm ?_|refine ixm ?_|refine schm ?_|refine gy ?_|refine gn ?_|(refine gsi (fun hB => ?_) (fun hB => ?_) <;> try (exfalso; omega)))|(refine gc ?_; first|refine cf ?_|(refine ci (fun hB => ?_) (fun hB => ?_) <;> try (exfalso; omega)))|refine sq ?_|refine rg ?_|refine xc ?_|refine nl ?_|refine sk ?_|refine bk ?_|refine xe ?_|refine rt ?_|refine xb ?_
  · exact lp (k - 1, slSub u 0 ((m.length : Int) - 1).toNat) ⟨by dsimp only; omega, by dsimp only; rw [hN, hge], hZ (by omega) (by omega)⟩
  · rw [← hT (.inr (by omega))]
    exact r1 ⟨ho, rfl⟩
  · rw [← hT (.inl (by omega))]
    exact r1 ⟨ho, rfl⟩
theorem Rdigit_tr (v : Value) (l : List Nat) (i : Nat) : Tr Tryz.prog 170 [v, I i] [vw v (Us l)] [] fun u D => u = Un (l.getD i 0) ∧ D = [] := by
  have h0 : ¬ i < l.length → l.getD i 0 = 0 := fun h => by rw [List.getD_eq_getElem?_getD, List.getElem?_eq_none (by omega)]; rfl
  refine Tr.enter env _ Tryz.func170 (by kernel_rfl) rfl Tryz.ntmps170 rfl (by repeat (first | exact has00 | refine has01 ?_)) fun w0 => ?_
  refine TC.lenu (v := v) (l := l) fun hlen => ?_
  repeat' first|(refine wo ?_; first|(refine ao ?_; first|refine oa ?_)|refine lu ?_|refine oa ?_|refine lnm ?_|refine ixmn ?_)|(refine gc ?_; first|(refine ci (fun hB => ?_) (fun hB => ?_) <;> try (exfalso; omega)))|refine sq ?_|refine rg ?_|refine xc ?_|refine nl ?_|refine sk ?_|refine rt ?_
  · exact r1 ⟨rfl, rfl⟩
  · exact r1 ⟨by rw [h0 (by omega)], rfl⟩
theorem ROf_tr (x : Nat) (hx : x < 18446744073709551616) : Tr Tryz.prog 83 [Un x] [] [] fun u D => u.oneCell' = true ∧ D = [own T64 u (Us (dg x))] := by
  have e : nv [x] = x := by simp [nv]
  have hT := fun o => RTrim_tr o [x] (Dg.one hx) (by simp)
  simp only [e] at hT
  refine Tr.enter env _ Tryz.func83 (by kernel_rfl) rfl Tryz.ntmps83 rfl (by repeat (first | exact has00 | refine has01 ?_)) fun w0 => ?_
  repeat' first|(refine gca ?_; first|(refine ca (hT o) ?_; rintro o2 _ ⟨ho2, rfl⟩))|(refine slu [x] fun o ho => ?_)|(refine wo ?_; first|refine oa ?_)|refine sq ?_|refine rg ?_|refine xc ?_|refine nl ?_|refine rt ?_
  exact r1 ⟨ho2, rfl⟩
theorem RNCheck_tr (v : Value) (l : List Nat) : Tr Tryz.prog 129 [v] [vw v (Us l)] [] fun u D => u = I (if 0 < l.length ∧ l.getD (l.length - 1) 0 = 0 then 6 else 0) ∧ D = [] := by
  have hge : ((l.length : Int) - 1).toNat = l.length - 1 := by omega
  rw [← hge]
  refine Tr.enter env _ Tryz.func129 (by kernel_rfl) rfl Tryz.ntmps129 rfl (by repeat (first | exact has00 | refine has01 ?_)) fun w0 => ?_
  refine TC.lenu (v := v) (l := l) fun hlen => ?_
  repeat' first|(refine wo ?_; first|(refine ao ?_; first|refine aw ?_|refine oa ?_)|refine lu ?_|refine oa ?_|refine lnm ?_|refine ixm ?_|refine gy ?_|refine gn ?_|(refine gsi (fun hB => ?_) (fun hB => ?_) <;> try (exfalso; omega)))|(refine gc ?_; first|refine cf ?_|(refine ci (fun hB => ?_) (fun hB => ?_) <;> try (exfalso; omega)))|refine sq ?_|refine rg ?_|refine xc ?_|refine nl ?_|refine sk ?_|refine rt ?_
  all_goals first
    | exact r1 ⟨by rw [if_pos (by omega)], rfl⟩
    | exact r1 ⟨by rw [if_neg (by omega)], rfl⟩
theorem RCmp_tr (v1 v2 : Value) (a b : List Nat) (ha : Dg a) (hb : Dg b) : Tr Tryz.prog 155 [v1, v2] [vw v1 (Us a), vw v2 (Us b)] [] fun u D => u = I (cmpN (nv a) (nv b)) ∧ D = [] := by
  refine Tr.enter env _ Tryz.func155 (by kernel_rfl) rfl Tryz.ntmps155 rfl (by repeat (first | exact has00 | refine has01 ?_)) fun w0 => ?_
  refine TC.lenu (v := v1) (l := a) fun hla => ?_
  refine TC.lenu (v := v2) (l := b) fun hlb => ?_
  repeat' first|refine mxx ?_|(refine wo ?_; first|(refine ao ?_; first|refine aw ?_)|refine oa ?_|refine lnm ?_)|refine sq ?_|refine rg ?_|refine xc ?_|refine nl ?_|refine bk ?_
  refine TC.loop (ι := Int) (fun k => [(5, I k)]) (fun _ => []) (fun k => -1 ≤ k ∧ k ≤ 9223372036854775807 ∧ nv (a.drop (k + 1).toNat) = nv (b.drop (k + 1).toNat)) (fun k => (k + 1).toNat) (max (a.length : Int) b.length - 1) [0, 1] ⟨by omega, by omega, ?_⟩ ?_
  · rw [List.drop_eq_nil_of_le (by omega), List.drop_eq_nil_of_le (by omega)]
  rintro k ⟨hk1, hk2, hI⟩
  by_cases hk : 0 ≤ k
  · obtain ⟨j, rfl⟩ : ∃ j : Nat, k = j := ⟨k.toNat, by omega⟩
    rw [show ((j : Int) + 1).toNat = j + 1 by omega] at hI
    have hL := nv_cmp_lt ha hI
    have hG := nv_cmp_lt hb hI.symm
    have s1 := nv_step a j
    have s2 := nv_step b j
    rw [hI] at s1
    have hx := ha.getD j
    have hy := hb.getD j
    have h1 := Rdigit_tr v1 a j
    have h2 := Rdigit_tr v2 b j
    generalize a.getD j 0 = x at *
    generalize b.getD j 0 = y at *
    repeat' first|(refine gca ?_; first|(refine ca h1 ?_; rintro _ _ ⟨rfl, rfl⟩)|(refine ca h2 ?_; rintro _ _ ⟨rfl, rfl⟩))|(refine wo ?_; first|(refine ao ?_; first|refine aw ?_|refine oa ?_)|refine oa ?_)|(refine gc ?_; first|refine ct ?_|(refine ci (fun hB => ?_) (fun hB => ?_) <;> try (exfalso; omega)))|refine sq ?_|refine rg ?_|refine xc ?_|refine nl ?_|refine sk ?_|refine bk ?_|refine rt ?_|refine xb ?_
    · exact r1 ⟨by rw [cmpN, if_pos (hL (by omega))], rfl⟩
    · exact r1 ⟨by have := hG (by omega); rw [cmpN, if_neg (by omega), if_pos this], rfl⟩
    · exact lp ((j : Int) - 1) ⟨by omega, by omega, by rw [show ((j : Int) - 1 + 1).toNat = j by omega, s1, s2]; omega⟩
  · obtain rfl : k = -1 := by omega
    repeat' first|(refine wo ?_; first|(refine ao ?_; first|refine oa ?_)|refine oa ?_)|(refine gc ?_; first|refine cf ?_)|refine sq ?_|refine rg ?_|refine xc ?_|refine nl ?_|refine xe ?_|refine rt ?_
    have e : cmpN (nv a) (nv b) = 0 := cmpN_eq.2 (by simpa using hI)
    exact r1 ⟨by rw [e], rfl⟩
theorem RAdd_tr (v1 v2 : Value) (a b : List Nat) (ha : Dg a) (hb : Dg b) (hla : a.length ≤ 1099511627776) (hlb : b.length ≤ 1099511627776) : Tr Tryz.prog 150 [v1, v2] [vw v1 (Us a), vw v2 (Us b)] [] fun u D => u.oneCell' = true ∧ D = [own T64 u (Us (dg (nv a + nv b)))] := by
  obtain ⟨m, hm⟩ : ∃ m : Nat, m = max a.length b.length := ⟨_, rfl⟩
  refine Tr.enter env _ Tryz.func150 (by kernel_rfl) rfl Tryz.ntmps150 rfl (by repeat (first | exact has00 | refine has01 ?_)) fun w0 => ?_
  repeat' first|(refine wo ?_; first|refine oa ?_)|refine sq ?_|refine rg ?_|refine xc ?_|refine nl ?_|refine bk ?_
  refine TC.im (own_nil T64 _) ?_
  refine TC.loop (ι := NaG) (fun g => [(7, I g.i), (6, Un g.c), (5, g.o)]) (fun g => [own T64 g.o (Us g.ys)]) (fun g => (g.ys.length = g.i ∧ g.i ≤ m + 1 ∧ g.c ≤ 1) ∧ Dg g.ys ∧ nv g.ys + g.c * 18446744073709551616 ^ g.i = nv (a.take g.i) + nv (b.take g.i)) (fun g => m + 1 - g.i) ⟨0, 0, nS, []⟩ [0, 1] ⟨⟨rfl, Nat.zero_le _, Nat.zero_le _⟩, Dg.nil, by simp [nv]⟩ ?_ (hf := by dsimp only; first | apply Fit.all | ((repeat (first | (apply Fit.nilN; (repeat (first | apply nrm_nil | apply nrm_cons)); try apply nrm_rfl) | (apply Fit.cons; focus ((repeat (first | apply Tk.here | apply Tk.there)); first | done | fail)))); first | done | fail))
  rintro ⟨i, c, o, ys⟩ ⟨⟨h1, h2, hc⟩, hd, hI⟩
  dsimp only at h1 h2 hc hd hI ⊢
  by_cases hi : i < m + 1
  · have hx := ha.getD i
    have hy := hb.getD i
    have hD1 := Rdigit_tr v1 a i
    have hD2 := Rdigit_tr v2 b i
    have hs := fun (d e : Nat) (h : d + 18446744073709551616 * e = a.getD i 0 + b.getD i 0 + c) => add_step (p := 18446744073709551616 ^ i) hI h
    have hta := nv_take_s a i
    have htb := nv_take_s b i
    have pk : ∀ (d e : Nat), d + 18446744073709551616 * e = a.getD i 0 + b.getD i 0 + c → nv (ys ++ [d]) + e * 18446744073709551616 ^ (i + 1) = nv (a.take (i + 1)) + nv (b.take (i + 1)) := fun d e h => by
      rw [nv_snoc, h1, hta, htb, Nat.pow_succ]; exact hs d e h
    clear hs hta htb hI
    generalize a.getD i 0 = x at *
    generalize b.getD i 0 = y at *
    have pk2 : Unit → ∀ (d e : Nat), d + 18446744073709551616 * e = x + y + c → nv (ys ++ [d]) + e * 18446744073709551616 ^ (i + 1) = nv (a.take (i + 1)) + nv (b.take (i + 1)) := fun _ => pk
    clear pk
    repeat' first|(refine gca ?_; first|(refine ca hD1 ?_; rintro _ _ ⟨rfl, rfl⟩)|(refine ca hD2 ?_; rintro _ _ ⟨rfl, rfl⟩))|refine mxx ?_|(refine slu [_] fun q hq => ?_)|(refine apu (v := o) (l := ys) (news := [_]) (fun o2 => ?_))|(refine wo ?_; first|(refine ao ?_; first|(refine nao ?_; first|refine nad ?_|refine nadm ?_)|(refine naou ?_; first|refine nad ?_|refine nadm ?_)|refine aw ?_|refine oa ?_)|refine oa ?_|refine lnm ?_)|(refine gc ?_; first|(refine ci (fun hB => ?_) (fun hB => ?_) <;> try (exfalso; omega)))|refine sq ?_|refine rg ?_|refine xc ?_|refine nl ?_|refine sk ?_|refine bk ?_|refine xb ?_
    · exact lp ⟨i + 1, 1, o2, ys ++ [(x + y) % 18446744073709551616 + c]⟩ ⟨⟨by simp [h1], hi, by dsimp only; omega⟩, hd.snoc (by omega), pk2 () _ 1 (by omega)⟩
    · exact lp ⟨i + 1, 1, o2, ys ++ [((x + y) % 18446744073709551616 + c) % 18446744073709551616]⟩ ⟨⟨by simp [h1], hi, by dsimp only; omega⟩, hd.snoc (by omega), pk2 () _ 1 (by omega)⟩
    · exact lp ⟨i + 1, 0, o2, ys ++ [((x + y) % 18446744073709551616 + c) % 18446744073709551616]⟩ ⟨⟨by simp [h1], hi, by dsimp only; omega⟩, hd.snoc (by omega), pk2 () _ 0 (by omega)⟩
  · obtain rfl : i = m + 1 := by omega
    have hn : nv ys = nv a + nv b := by
      rw [nv_take_all (by omega), nv_take_all (by omega)] at hI
      have b1 := nv_lt ha
      have b2 := nv_lt hb
      have b3 : 18446744073709551616 ^ a.length ≤ 18446744073709551616 ^ m := Nat.pow_le_pow_right (by decide) (by omega)
      have b4 : 18446744073709551616 ^ b.length ≤ 18446744073709551616 ^ m := Nat.pow_le_pow_right (by decide) (by omega)
      rw [Nat.pow_succ] at hI
      rcases Nat.eq_zero_or_pos c with h0 | h0
      · subst h0; omega
      · obtain rfl : c = 1 := by omega
        omega
    have hT := RTrim_tr o ys hd (by omega)
    rw [hn] at hT
    clear hI hn
    repeat' first|(refine gca ?_; first|(refine ca hT ?_; rintro o2 _ ⟨ho2, rfl⟩))|refine mxx ?_|(refine wo ?_; first|(refine ao ?_; first|refine oa ?_)|refine oa ?_|refine lnm ?_)|(refine gc ?_; first|(refine ci (fun hB => ?_) (fun hB => ?_) <;> try (exfalso; omega)))|refine sq ?_|refine rg ?_|refine xc ?_|refine nl ?_|refine xe ?_|refine rt ?_
    exact r1 ⟨ho2, rfl⟩
end Go.Art
set_option linter.unusedSimpArgs false
set_option linter.unusedVariables false
namespace Go.Art
open Go Go.Proofs Go.RowKit
theorem nv_drop_div {l : List Nat} (h : Dg l) (q : Nat) : nv (l.drop q) = nv l / 18446744073709551616 ^ q := by
  have h1 := nv_cut l q
  have h2 := nv_low h q
  have h0 : 0 < 18446744073709551616 ^ q := Nat.pow_pos (by decide)
  rw [h1, Nat.add_mul_div_left _ _ h0, Nat.div_eq_of_lt h2, Nat.zero_add]
theorem pow_W (q : Nat) : 18446744073709551616 ^ q = 2 ^ (64 * q) := by rw [Nat.pow_mul]
def Bt (n b : Nat) : Prop := n < 2 ^ b ∧ (b = 0 ∨ 2 ^ (b - 1) ≤ n)
theorem both_val {a b c d : Nat} (ha : a < 4294967296) (hb : b < 4294967296) (hc : c < 4294967296) (hd : d < 4294967296) :
    (b * d < 18446744073709551616 ∧ a * d + b * d / 4294967296 < 18446744073709551616 ∧ b * c + (a * d + b * d / 4294967296) % 4294967296 < 18446744073709551616) ∧
    (a * c + (a * d + b * d / 4294967296) / 4294967296 + (b * c + (a * d + b * d / 4294967296) % 4294967296) / 4294967296) * 18446744073709551616 + ((b * c + (a * d + b * d / 4294967296) % 4294967296) % 4294967296 * 4294967296 + b * d % 4294967296) = (a * 4294967296 + b) * (c * 4294967296 + d) := by
  have e : (a * 4294967296 + b) * (c * 4294967296 + d) = a * c * 18446744073709551616 + (a * d + b * c) * 4294967296 + b * d := by
    rw [Nat.add_mul, Nat.mul_add, Nat.mul_add]
    have : a * 4294967296 * (c * 4294967296) = a * c * 18446744073709551616 := by rw [Nat.mul_mul_mul_comm]
    have : a * 4294967296 * d = a * d * 4294967296 := by ac_rfl
    have : b * (c * 4294967296) = b * c * 4294967296 := by ac_rfl
    omega
  have h1 : a * d ≤ 4294967295 * 4294967295 := Nat.mul_le_mul (by omega) (by omega)
  have h2 : b * c ≤ 4294967295 * 4294967295 := Nat.mul_le_mul (by omega) (by omega)
  have h3 : b * d ≤ 4294967295 * 4294967295 := Nat.mul_le_mul (by omega) (by omega)
  rw [e]
  generalize a * c = p at *
  generalize a * d = q at *
  generalize b * c = r at *
  generalize b * d = s at *
  omega
attribute [local irreducible] Fit pt own ro vw mpc lpt vels rels mow lrc dfr
theorem RSub_tr (v1 v2 : Value) (a b : List Nat) (ha : Dg a) (hb : Dg b) (hla : a.length ≤ 1099511627776) (hle : nv b ≤ nv a) : Tr Tryz.prog 172 [v1, v2] [vw v1 (Us a), vw v2 (Us b)] [] fun u D => ∃ o, u = tup2 o (I 0) ∧ o.oneCell' = true ∧ D = [own T64 o (Us (dg (nv a - nv b)))] := by
  have hC := RCmp_tr v1 v2 a b ha hb
  have hcm : ¬ cmpN (nv a) (nv b) < 0 := by rw [cmpN_lt]; omega
  obtain ⟨cm, hc⟩ : ∃ cm, cm = cmpN (nv a) (nv b) := ⟨_, rfl⟩
  rw [← hc] at hC hcm
  clear hc
  refine Tr.enter env _ Tryz.func172 (by kernel_rfl) rfl Tryz.ntmps172 rfl (by repeat (first | exact has00 | refine has01 ?_)) fun w0 => ?_
  repeat' first|(refine gca ?_; first|(refine ca hC ?_; rintro _ _ ⟨rfl, rfl⟩))|(refine wo ?_; first|(refine ao ?_; first|refine oa ?_)|refine oa ?_)|(refine gc ?_; first|(refine ci (fun hB => ?_) (fun hB => ?_) <;> try (exfalso; omega)))|refine sq ?_|refine rg ?_|refine xc ?_|refine nl ?_|refine sk ?_|refine bk ?_
  refine TC.im (own_nil T64 _) ?_
  refine TC.loop (ι := NaG) (fun g => [(8, I g.i), (7, Un g.c), (6, g.o)]) (fun g => [own T64 g.o (Us g.ys)]) (fun g => (g.ys.length = g.i ∧ g.i ≤ a.length ∧ g.c ≤ 1) ∧ Dg g.ys ∧ nv g.ys + nv (b.take g.i) = nv (a.take g.i) + g.c * 18446744073709551616 ^ g.i) (fun g => a.length - g.i) ⟨0, 0, nS, []⟩ [0, 1] ⟨⟨rfl, Nat.zero_le _, Nat.zero_le _⟩, Dg.nil, by simp [nv]⟩ ?_ (hf := by dsimp only; first | apply Fit.all | ((repeat (first | (apply Fit.nilN; (repeat (first | apply nrm_nil | apply nrm_cons)); try apply nrm_rfl) | (apply Fit.cons; focus ((repeat (first | apply Tk.here | apply Tk.there)); first | done | fail)))); first | done | fail))
  rintro ⟨i, c, o, ys⟩ ⟨⟨h1, h2, hc⟩, hd, hI⟩
  dsimp only at h1 h2 hc hd hI ⊢
  by_cases hi : i < a.length
  · have hx := ha.getD i
    have hy := hb.getD i
    have hD2 := Rdigit_tr v2 b i
    have hs := fun (d e : Nat) (h : d + b.getD i 0 + c = a.getD i 0 + e * 18446744073709551616) => sub_step (p := 18446744073709551616 ^ i) hI h
    have hta := nv_take_s a i
    have htb := nv_take_s b i
    have pk : ∀ (d e : Nat), d + b.getD i 0 + c = a.getD i 0 + e * 18446744073709551616 → nv (ys ++ [d]) + nv (b.take (i + 1)) = nv (a.take (i + 1)) + e * 18446744073709551616 ^ (i + 1) := fun d e h => by
      rw [nv_snoc, h1, hta, htb, Nat.pow_succ]; exact hs d e h
    clear hs hta htb hI
    generalize b.getD i 0 = y at *
    have pk2 : Unit → ∀ (d e : Nat), d + y + c = a.getD i 0 + e * 18446744073709551616 → nv (ys ++ [d]) + nv (b.take (i + 1)) = nv (a.take (i + 1)) + e * 18446744073709551616 ^ (i + 1) := fun _ => pk
    clear pk
    repeat' first|(refine qca hD2 (fun _ _ h => h) ?_)|(refine slu [_] fun q hq => ?_)|(refine apu (v := o) (l := ys) (news := [_]) (fun o2 => ?_))|(refine wo ?_; first|(refine ao ?_; first|(refine nao ?_; first|refine nsb ?_|refine nsbm ?_)|(refine naou ?_; first|refine nsb ?_|refine nsbm ?_)|refine aw ?_|refine oa ?_)|refine oa ?_|refine lnm ?_)|(refine gc ?_; first|(refine ci (fun hB => ?_) (fun hB => ?_) <;> try (exfalso; omega)))|refine sq ?_|refine rg ?_|refine xc ?_|refine nl ?_|refine sk ?_|refine bk ?_|refine xb ?_|refine rq ?_|refine nq ?_|(refine wq ?_; first|refine qlu ?_|refine qa ?_|refine qixmn ?_)
    · exact lp ⟨i + 1, 1, o2, ys ++ [(a.getD i 0 + 18446744073709551616 - y) % 18446744073709551616 - c]⟩ ⟨⟨by simp [h1], hi, by dsimp only; omega⟩, hd.snoc (by omega), pk2 () _ 1 (by omega)⟩
    · exact lp ⟨i + 1, 1, o2, ys ++ [((a.getD i 0 + 18446744073709551616 - y) % 18446744073709551616 + 18446744073709551616 - c) % 18446744073709551616]⟩ ⟨⟨by simp [h1], hi, by dsimp only; omega⟩, hd.snoc (by omega), pk2 () _ 1 (by omega)⟩
    · exact lp ⟨i + 1, 0, o2, ys ++ [((a.getD i 0 + 18446744073709551616 - y) % 18446744073709551616 + 18446744073709551616 - c) % 18446744073709551616]⟩ ⟨⟨by simp [h1], hi, by dsimp only; omega⟩, hd.snoc (by omega), pk2 () _ 0 (by omega)⟩
  · obtain rfl : i = a.length := by omega
    have hn : nv ys = nv a - nv b := by
      rw [List.take_length] at hI
      have b1 := nv_lt ha
      have b2 := nv_lt hd
      rw [h1] at b2
      have b3 : nv (b.take a.length) = nv b := by
        have h5 := nv_cut b a.length
        rcases Nat.eq_zero_or_pos (nv (b.drop a.length)) with h6 | h6
        · rw [h6] at h5; omega
        · have h7 : 18446744073709551616 ^ a.length * 1 ≤ 18446744073709551616 ^ a.length * nv (b.drop a.length) := Nat.mul_le_mul_left _ h6
          omega
      rw [b3] at hI
      rcases Nat.eq_zero_or_pos c with h0 | h0
      · subst h0; omega
      · obtain rfl : c = 1 := by omega
        omega
    have hT := RTrim_tr o ys hd (by omega)
    rw [hn] at hT
    clear hI hn
    repeat' first|(refine gca ?_; first|(refine ca hT ?_; rintro o2 _ ⟨ho2, rfl⟩))|(refine wo ?_; first|(refine ao ?_; first|refine oa ?_)|refine oa ?_|refine lnm ?_)|(refine gc ?_; first|(refine ci (fun hB => ?_) (fun hB => ?_) <;> try (exfalso; omega)))|refine sq ?_|refine rg ?_|refine xc ?_|refine nl ?_|refine xe ?_|refine rt ?_
    exact r2 ⟨o2, rfl, ho2, rfl⟩
theorem RLen_tr (v : Value) (l : List Nat) (hd : Dg l) (hl : l.length ≤ 1099511627776) : Tr Tryz.prog 151 [v] [vw v (Us l)] [] fun u D => ∃ b : Nat, u = I b ∧ Bt (nv l) b ∧ b ≤ 64 * l.length ∧ D = [] := by
  have hT := RTrim_tr v l hd (by omega)
  have hll := dg_len_le hd
  obtain ⟨n, hn⟩ : ∃ n, n = nv l := ⟨_, rfl⟩
  rw [← hn] at hT hll ⊢
  by_cases h0 : n = 0
  · subst h0
    have hlen : (dg 0).length = 0 := by rw [dg_zero]; rfl
    refine Tr.enter env _ Tryz.func151 (by kernel_rfl) rfl Tryz.ntmps151 rfl (by repeat (first | exact has00 | refine has01 ?_)) fun w0 => ?_
    repeat' first|(refine gca ?_; first|(refine ca hT ?_; rintro o _ ⟨ho, rfl⟩))|(refine wo ?_; first|(refine ao ?_; first|refine oa ?_)|refine oa ?_|refine lnm ?_)|(refine gc ?_; first|(refine ci (fun hB => ?_) (fun hB => ?_) <;> try (exfalso; omega)))|refine sq ?_|refine rg ?_|refine xc ?_|refine nl ?_|refine rt ?_
    exact r1 ⟨0, rfl, ⟨by decide, .inl rfl⟩, Nat.zero_le _, rfl⟩
  have hp := dg_len_pos h0
  obtain ⟨tb1, tb2⟩ := top_bounds h0
  have htd : (dg n).getD ((dg n).length - 1) 0 ≠ 0 := (Tm_dg n).top (by omega)
  have htl : (dg n).getD ((dg n).length - 1) 0 < 18446744073709551616 := (Dg_dg n).getD _
  have hge : (((dg n).length : Int) - 1).toNat = (dg n).length - 1 := by omega
  obtain ⟨m, hm⟩ : ∃ m, m = (dg n).length - 1 := ⟨_, rfl⟩
  have hm2 : ((dg n).length : Int) - 1 = m := by omega
  rw [← hm] at tb1 tb2 htd htl hge
  obtain ⟨t, ht⟩ : ∃ t, (dg n).getD (((dg n).length : Int) - 1).toNat 0 = t := ⟨_, rfl⟩
  have ht2 : (dg n).getD m 0 = t := by rw [← ht, hge]
  rw [ht2] at tb1 tb2 htd htl
  have pk : Unit → ∀ b, Bt t b → 0 < b → b ≤ 64 → Bt n (64 * m + b) ∧ 64 * m + b ≤ 64 * l.length := fun _ b hb h1 h2 => by
    obtain ⟨g1, g2⟩ := hb
    refine ⟨⟨?_, .inr ?_⟩, by omega⟩
    · rw [Nat.pow_add, ← pow_W, Nat.mul_comm]
      exact Nat.lt_of_lt_of_le tb2 (Nat.mul_le_mul_right _ g1)
    · rw [show 64 * m + b - 1 = 64 * m + (b - 1) by omega, Nat.pow_add, ← pow_W, Nat.mul_comm]
      exact Nat.le_trans (Nat.mul_le_mul_right _ (g2.resolve_left (by omega))) tb1
  clear tb1 tb2 ht2
  refine Tr.enter env _ Tryz.func151 (by kernel_rfl) rfl Tryz.ntmps151 rfl (by repeat (first | exact has00 | refine has01 ?_)) fun w0 => ?_
  repeat' first|(refine gca ?_; first|(refine ca hT ?_; rintro o _ ⟨ho, rfl⟩))|refine lue ht ?_|(refine wo ?_; first|(refine ao ?_; first|refine aw ?_|refine oa ?_)|refine oa ?_|refine lnm ?_|refine ixm ?_)|(refine gc ?_; first|(refine ci (fun hB => ?_) (fun hB => ?_) <;> try (exfalso; omega)))|refine sq ?_|refine rg ?_|refine xc ?_|refine nl ?_|refine sk ?_|refine bk ?_
  refine TC.loop (ι := Nat × Nat) (fun g => [(3, I ((64 * m + g.1 : Nat) : Int)), (4, Un g.2)]) (fun _ => []) (fun g => g.1 ≤ 64 ∧ g.2 = t / 2 ^ g.1 ∧ (g.1 = 0 ∨ 2 ^ (g.1 - 1) ≤ t)) (fun g => g.2) (0, t) [] ⟨Nat.zero_le _, by simp, .inl rfl⟩ ?_ (hs := by dsimp only; rw [show ((64 * m + 0 : Nat) : Int) = 64 * (((dg n).length : Int) - 1) by omega]; (repeat (refine Sub.cons rfl (by first | rfl | go_num) ?_)); exact Sub.nil)
  rintro ⟨b, y⟩ ⟨h1, h2, h3⟩
  dsimp only at h1 h2 h3 ⊢
  by_cases hy : 0 < y
  · have hb63 : b < 64 := by
      rcases Nat.lt_or_ge b 64 with h | h
      · exact h
      · obtain rfl : b = 64 := by omega
        rw [Nat.div_eq_of_lt (by simpa using htl)] at h2; omega
    have hle : 2 ^ b ≤ t := by
      rcases Nat.lt_or_ge t (2 ^ b) with h | h
      · rw [Nat.div_eq_of_lt h] at h2; omega
      · exact h
    have hyl : y ≤ t := by rw [h2]; exact Nat.div_le_self _ _
    have hnx : Unit → (y / 2 = t / 2 ^ (b + 1) ∧ (b + 1 = 0 ∨ 2 ^ (b + 1 - 1) ≤ t)) := fun _ => ⟨by rw [h2, Nat.div_div_eq_div_mul, ← Nat.pow_succ], .inr hle⟩
    clear h2 h3 hle
    repeat' first|(refine wo ?_; first|(refine ao ?_; first|(refine nao ?_; first|refine nqu ?_)|(refine naou ?_; first|refine nqu ?_)|refine aw ?_|refine oa ?_)|refine oa ?_)|(refine gc ?_; first|(refine ci (fun hB => ?_) (fun hB => ?_) <;> try (exfalso; omega)))|refine sq ?_|refine rg ?_|refine xc ?_|refine nl ?_|refine sk ?_|refine bk ?_|refine xb ?_
    exact lp (b + 1, y / 2) ⟨hb63, (hnx ()).1, (hnx ()).2⟩ (hs := by dsimp only; rw [show ((64 * m + (b + 1) : Nat) : Int) = ((64 * m + b : Nat) : Int) + 1 by omega]; (repeat (refine Sub.cons rfl (by first | rfl | go_num) ?_)); exact Sub.nil) (hlt := by dsimp only; omega)
  · obtain rfl : y = 0 := by omega
    have hbt : t < 2 ^ b := by
      rcases Nat.lt_or_ge t (2 ^ b) with h | h
      · exact h
      · have := Nat.div_pos h (Nat.pow_pos (by decide)); omega
    have hb0 : 0 < b := by
      rcases Nat.eq_zero_or_pos b with h | h
      · subst h; simp at hbt; omega
      · exact h
    obtain ⟨k1, k2⟩ := pk () b ⟨hbt, h3⟩ hb0 h1
    clear h2 h3 hbt
    repeat' first|(refine wo ?_; first|(refine ao ?_; first|refine oa ?_)|refine oa ?_)|(refine gc ?_; first|refine cf ?_)|refine sq ?_|refine rg ?_|refine xc ?_|refine nl ?_|refine xe ?_|refine rt ?_
    exact r1 ⟨64 * m + b, rfl, k1, k2, rfl⟩
end Go.Art
set_option linter.unusedSimpArgs false
set_option linter.unusedVariables false
namespace Go.Art
open Go Go.Proofs Go.RowKit
theorem shl32 (x : Nat) : x * 4294967296 % 18446744073709551616 / 4294967296 = x % 4294967296 := by omega
theorem split32 (x : Nat) : x / 4294967296 * 4294967296 + x % 4294967296 = x := by omega
theorem div32 {x : Nat} (h : x < 18446744073709551616) : x / 4294967296 < 4294967296 := by omega
theorem mod32 (x : Nat) : x % 4294967296 < 4294967296 := by omega
theorem grow_a {h l c px : Nat} (e : h * 18446744073709551616 + l = px) (hle : px ≤ 18446744073709551615 * 18446744073709551615) (hl : l < 18446744073709551616) (hc : c < 18446744073709551616) (k : ((l + c) % 18446744073709551616 : Nat) < c) : (l + c) % 18446744073709551616 + 18446744073709551616 * ((h + 1) % 18446744073709551616) = px + c := by omega
theorem grow_b {h l c px : Nat} (e : h * 18446744073709551616 + l = px) (hl : l < 18446744073709551616) (hc : c < 18446744073709551616) (k : ¬ ((l + c) % 18446744073709551616 : Nat) < c) : (l + c) % 18446744073709551616 + 18446744073709551616 * h = px + c := by omega
theorem both_sum {p q r s : Nat} (v1 : s < 18446744073709551616) (v2 : q + s / 4294967296 < 18446744073709551616) (v3 : r + (q + s / 4294967296) % 4294967296 < 18446744073709551616)
    (v8 : (p + (q + s / 4294967296) / 4294967296 + (r + (q + s / 4294967296) % 4294967296) / 4294967296) * 18446744073709551616 + ((r + (q + s / 4294967296) % 4294967296) % 4294967296 * 4294967296 + s % 4294967296) < 18446744073709551616 * 18446744073709551616) :
    (((p % 18446744073709551616 + (q % 18446744073709551616 + s % 18446744073709551616 / 4294967296) % 18446744073709551616 / 4294967296) % 18446744073709551616 + (r % 18446744073709551616 + (q % 18446744073709551616 + s % 18446744073709551616 / 4294967296) % 18446744073709551616 * 4294967296 % 18446744073709551616 / 4294967296) % 18446744073709551616 / 4294967296) % 18446744073709551616) * 18446744073709551616 +
      ((r % 18446744073709551616 + (q % 18446744073709551616 + s % 18446744073709551616 / 4294967296) % 18446744073709551616 * 4294967296 % 18446744073709551616 / 4294967296) % 18446744073709551616 * 4294967296 % 18446744073709551616 + s % 18446744073709551616 * 4294967296 % 18446744073709551616 / 4294967296) % 18446744073709551616 =
    (p + (q + s / 4294967296) / 4294967296 + (r + (q + s / 4294967296) % 4294967296) / 4294967296) * 18446744073709551616 + ((r + (q + s / 4294967296) % 4294967296) % 4294967296 * 4294967296 + s % 4294967296) := by
  rw [Nat.mod_eq_of_lt v1, Nat.mod_eq_of_lt (show q < 18446744073709551616 by omega), Nat.mod_eq_of_lt v2, shl32, shl32, Nat.mod_eq_of_lt (show r < 18446744073709551616 by omega), Nat.mod_eq_of_lt v3]
  generalize hone : q + s / 4294967296 = one at *
  generalize htwo : r + one % 4294967296 = two at *
  omega
attribute [local irreducible] Fit pt own ro vw mpc lpt vels rels mow lrc dfr
theorem moved_tr (s : Nat) (hs : s ≤ 16777216) : Tr Tryz.prog 171 [I s] [] [] fun u D => u = .bool true ∧ D = [] := by
  refine Tr.enter env _ Tryz.func171 (by kernel_rfl) rfl Tryz.ntmps171 rfl (by repeat (first | exact has00 | refine has01 ?_)) fun w0 => ?_
  repeat' first|(refine wo ?_; first|(refine ao ?_; first|refine oa ?_)|refine oa ?_|refine gy ?_)|refine sq ?_|refine rg ?_|refine xc ?_|refine nl ?_|refine rt ?_
  refine r1 ⟨?_, rfl⟩
  rw [decide_eq_true (by omega)]
theorem RDown_tr (v1 : Value) (l : List Nat) (s : Nat) (hs : s ≤ 16777216) (hd : Dg l) (hl : l.length ≤ 1099511627776) : Tr Tryz.prog 152 [v1, I s] [vw v1 (Us l)] [] fun u D => ∃ o, u = tup2 o (I 0) ∧ o.oneCell' = true ∧ D = [own T64 o (Us (dg (nv l / 2 ^ s)))] := by
  obtain ⟨q, hq⟩ : ∃ q, q = s / 64 := ⟨_, rfl⟩
  obtain ⟨p, hp⟩ : ∃ p, p = s % 64 := ⟨_, rfl⟩
  have hqi : (s : Int) / 64 = q := by omega
  have hpi : (s : Int) % 64 = p := by omega
  have hp63 : p < 64 := by omega
  have hsq : s = 64 * q + p := by omega
  have hg : 0 < 2 ^ p := Nat.pow_pos (by decide)
  have hg2 : 0 < 2 ^ (64 - p) := Nat.pow_pos (by decide)
  have hsp : 2 ^ p * 2 ^ (64 - p) = 18446744073709551616 := by rw [← Nat.pow_add, show p + (64 - p) = 64 by omega]
  have hend : nv l / 2 ^ s = nv (l.drop q) / 2 ^ p := by rw [nv_drop_div hd, Nat.div_div_eq_div_mul, pow_W, ← Nat.pow_add, hsq]
  rw [hend]
  have pkE : Unit → ∀ (ys : List Nat) (j : Nat), l.length ≤ q + j → nv ys * 2 ^ p + (l.drop q).getD 0 0 % 2 ^ p = nv ((l.drop q).take j) + 18446744073709551616 ^ j * ((l.drop q).getD j 0 % 2 ^ p) → nv ys = nv (l.drop q) / 2 ^ p := fun _ ys j hj hI => by
    rw [nv_take_all (by rw [List.length_drop]; omega), getD_over (i := j) (by rw [List.length_drop]; omega), Nat.zero_mod, Nat.mul_zero, Nat.add_zero] at hI
    rw [← hI, Nat.add_comm, Nat.add_mul_div_right _ _ hg, Nat.div_eq_of_lt (Nat.mod_lt _ hg), Nat.zero_add]
  have pkS : Unit → ∀ (ys : List Nat) (j : Nat), ys.length = j → nv ys * 2 ^ p + (l.drop q).getD 0 0 % 2 ^ p = nv ((l.drop q).take j) + 18446744073709551616 ^ j * ((l.drop q).getD j 0 % 2 ^ p) →
      ∃ z d y, (l.getD (q + j) 0 / 2 ^ (min ((p : Int)).toNat 64) = z ∧ (0 < p → l.getD (q + j + 1) 0 * 2 ^ (min (((64 - p : Nat) : Int)).toNat 64) % 18446744073709551616 = d ∧ z ||| d = y) ∧ (p = 0 → z = y)) ∧ z < 18446744073709551616 ∧ d < 18446744073709551616 ∧ y < 18446744073709551616 ∧
        nv (ys ++ [y]) * 2 ^ p + (l.drop q).getD 0 0 % 2 ^ p = nv ((l.drop q).take (j + 1)) + 18446744073709551616 ^ (j + 1) * ((l.drop q).getD (j + 1) 0 % 2 ^ p) := fun _ ys j hj hI => by
    have g0 : (l.drop q).getD j 0 = l.getD (q + j) 0 := by simp [List.getD_eq_getElem?_getD, List.getElem?_drop]
    have g1 : (l.drop q).getD (j + 1) 0 = l.getD (q + j + 1) 0 := by simp [List.getD_eq_getElem?_getD, List.getElem?_drop, Nat.add_assoc]
    have hx := hd.getD (q + j)
    have hx1 := hd.getD (q + j + 1)
    rw [g0] at hI
    have hS : ∀ y, nv (ys ++ [y]) = nv ys + 18446744073709551616 ^ j * y := fun y => by rw [nv_snoc, hj]
    rw [g1, nv_take_s, g0]
    generalize l.getD (q + j) 0 = x at *
    generalize l.getD (q + j + 1) 0 = x1 at *
    have hdl : x1 % 2 ^ p < 2 ^ p := Nat.mod_lt _ hg
    obtain ⟨d, hdd⟩ : ∃ d, d = x1 % 2 ^ p * 2 ^ (64 - p) := ⟨_, rfl⟩
    have b1 : x / 2 ^ p < 18446744073709551616 := Nat.lt_of_le_of_lt (Nat.div_le_self _ _) hx
    have b1' : x / 2 ^ p < 2 ^ (64 - p) := Nat.div_lt_of_lt_mul (by rw [hsp]; exact hx)
    have b2 : d < 18446744073709551616 := by rw [hdd, ← hsp]; exact Nat.mul_lt_mul_of_pos_right hdl hg2
    have b3 : d + 2 ^ (64 - p) ≤ 18446744073709551616 := by
      have := Nat.mul_le_mul_right (2 ^ (64 - p)) hdl
      rw [Nat.succ_mul, hsp] at this
      rw [hdd]; exact this
    have hmp : min ((p : Int)).toNat 64 = p := by rw [Int.toNat_natCast]; exact Nat.min_eq_left (by omega)
    have hmp2 : min (((64 - p : Nat) : Int)).toNat 64 = 64 - p := by rw [Int.toNat_natCast]; exact Nat.min_eq_left (by omega)
    have hyg : (x / 2 ^ p + d) * 2 ^ p = x - x % 2 ^ p + x1 % 2 ^ p * 18446744073709551616 := by
      have h1 := Nat.div_add_mod x (2 ^ p)
      rw [Nat.add_mul, hdd, Nat.mul_assoc, Nat.mul_comm (2 ^ (64 - p)), hsp, Nat.mul_comm (x / 2 ^ p)]
      omega
    refine ⟨x / 2 ^ p, d, x / 2 ^ p + d, ⟨by rw [hmp], fun h => ⟨?_, ?_⟩, fun h => ?_⟩, b1, b2, by omega, ?_⟩
    · rw [hmp2, hdd]
      conv => lhs; rw [← hsp]
      exact Nat.mul_mod_mul_right _ _ _
    · rw [Nat.or_comm, hdd, Nat.mul_comm _ (2 ^ (64 - p)), or_add b1']; exact Nat.add_comm _ _
    · subst h; rw [hdd, Nat.pow_zero, Nat.mod_one, Nat.zero_mul, Nat.add_zero]
    · rw [hS, Nat.pow_succ]; exact down_step hI hyg
  clear hg hg2 hsp hend
  refine Tr.enter env _ Tryz.func152 (by kernel_rfl) rfl Tryz.ntmps152 rfl (by repeat (first | exact has00 | refine has01 ?_)) fun w0 => ?_
  repeat' first|(refine gca ?_; first|(refine ca (moved_tr s hs) ?_; rintro _ _ ⟨rfl, rfl⟩))|(refine adiv ?_; rw [hqi])|(refine amod ?_; rw [hpi])|(refine ntu (m := (p : Int)) ?_; rw [Int.toNat_natCast])|(refine wo ?_; first|refine oa ?_)|(refine gc ?_; first|refine cf ?_)|refine sq ?_|refine rg ?_|refine xc ?_|refine nl ?_|refine sk ?_|refine bk ?_
  refine TC.im (own_nil T64 _) ?_
  refine TC.loop (ι := NaG) (fun g => [(8, I ((q + g.i : Nat) : Int)), (6, g.o)]) (fun g => [own T64 g.o (Us g.ys)]) (fun g => (g.ys.length = g.i ∧ (g.i = 0 ∨ q + g.i ≤ l.length)) ∧ Dg g.ys ∧ nv g.ys * 2 ^ p + (l.drop q).getD 0 0 % 2 ^ p = nv ((l.drop q).take g.i) + 18446744073709551616 ^ g.i * ((l.drop q).getD g.i 0 % 2 ^ p)) (fun g => l.length - (q + g.i)) ⟨0, 0, nS, []⟩ [0, 7] ⟨⟨rfl, .inl rfl⟩, Dg.nil, by simp [nv]⟩ ?_ (hf := by dsimp only; first | apply Fit.all | ((repeat (first | (apply Fit.nilN; (repeat (first | apply nrm_nil | apply nrm_cons)); try apply nrm_rfl) | (apply Fit.cons; focus ((repeat (first | apply Tk.here | apply Tk.there)); first | done | fail)))); first | done | fail))
  rintro ⟨i, _, o, ys⟩ ⟨⟨h1, h2⟩, hdy, hI⟩
  dsimp only at h1 h2 hdy hI ⊢
  by_cases hi : q + i < l.length
  · obtain ⟨z, d, y, ⟨e1, e2, e3⟩, bz, bd, by_, hnx⟩ := pkS () ys i h1 hI
    have hD := Rdigit_tr v1 l (q + i + 1)
    rw [show ((q + i + 1 : Nat) : Int) = ((q + i : Nat) : Int) + 1 by omega] at hD
    have pe1 : Unit → _ := fun _ => e1
    have pe2 : Unit → _ := fun _ => e2
    have pn : Unit → _ := fun _ => hnx
    clear pkS pkE hI e1 e2 hnx
    by_cases hp0 : p = 0
    · have ezy := e3 hp0
      subst ezy
      clear e3 pe2
      repeat' first|(refine nsre (pe1 ()) ?_)|(refine slu [_] fun qv hqv => ?_)|(refine apu (v := o) (l := ys) (news := [_]) (fun o2 => ?_))|(refine wo ?_; first|(refine ao ?_; first|refine aw ?_|refine oa ?_)|refine lu ?_|refine oa ?_|refine lnm ?_|refine ixmn ?_)|(refine gc ?_; first|(refine ci (fun hB => ?_) (fun hB => ?_) <;> try (exfalso; omega)))|refine sq ?_|refine rg ?_|refine xc ?_|refine nl ?_|refine sk ?_|refine bk ?_|refine xb ?_
      exact lp ⟨i + 1, 0, o2, ys ++ [z]⟩ ⟨⟨by simp [h1], .inr (by dsimp only; omega)⟩, hdy.snoc by_, pn ()⟩ (hs := by dsimp only; rw [show ((q + (i + 1) : Nat) : Int) = ((q + i : Nat) : Int) + 1 by omega]; (repeat (refine Sub.cons rfl (by first | rfl | go_num) ?_)); exact Sub.nil)
    · have e4 : Unit → _ := fun _ => pe2 () (by omega)
      clear e3 pe2
      repeat' first|(refine gca ?_; first|(refine ca hD ?_; rintro _ _ ⟨rfl, rfl⟩))|(refine nsre (pe1 ()) ?_)|(refine nsle (e4 ()).1 ?_)|(refine nore (e4 ()).2 ?_)|(refine slu [_] fun qv hqv => ?_)|(refine apu (v := o) (l := ys) (news := [_]) (fun o2 => ?_))|(refine wo ?_; first|(refine ao ?_; first|(refine nao ?_; first|refine nsb ?_)|(refine naou ?_; first|refine nsb ?_)|refine aw ?_|refine oa ?_)|refine lu ?_|refine oa ?_|refine lnm ?_|refine ixmn ?_)|(refine gc ?_; first|(refine ci (fun hB => ?_) (fun hB => ?_) <;> try (exfalso; omega)))|refine sq ?_|refine rg ?_|refine xc ?_|refine nl ?_|refine sk ?_|refine bk ?_|refine xb ?_
      exact lp ⟨i + 1, 0, o2, ys ++ [y]⟩ ⟨⟨by simp [h1], .inr (by dsimp only; omega)⟩, hdy.snoc by_, pn ()⟩ (hs := by dsimp only; rw [show ((q + (i + 1) : Nat) : Int) = ((q + i : Nat) : Int) + 1 by omega]; (repeat (refine Sub.cons rfl (by first | rfl | go_num) ?_)); exact Sub.nil)
  · have hn := pkE () ys i (by omega) hI
    have hT := RTrim_tr o ys hdy (by omega)
    rw [hn] at hT
    clear pkS pkE hI hn
    obtain ⟨m, hm⟩ : ∃ m, m = nv (l.drop q) / 2 ^ p := ⟨_, rfl⟩
    rw [← hm] at hT ⊢
    clear hm
    repeat' first|(refine gca ?_; first|(refine ca hT ?_; rintro o2 _ ⟨ho2, rfl⟩))|(refine wo ?_; first|(refine ao ?_; first|refine oa ?_)|refine oa ?_|refine lnm ?_)|(refine gc ?_; first|(refine ci (fun hB => ?_) (fun hB => ?_) <;> try (exfalso; omega)))|refine sq ?_|refine rg ?_|refine xc ?_|refine nl ?_|refine xe ?_|refine rt ?_
    exact r2 ⟨o2, rfl, ho2, rfl⟩
theorem both_tr (x y : Nat) (hx : x < 18446744073709551616) (hy : y < 18446744073709551616) : Tr Tryz.prog 84 [Un x, Un y] [] [] fun u D => ∃ h l, u = tup2 (Un h) (Un l) ∧ D = [] ∧ h < 18446744073709551616 ∧ l < 18446744073709551616 ∧ h * 18446744073709551616 + l = x * y := by
  refine Tr.enter env _ Tryz.func84 (by kernel_rfl) rfl Tryz.ntmps84 rfl (by repeat (first | exact has00 | refine has01 ?_)) fun w0 => ?_
  repeat' first|(refine wo ?_; first|(refine ao ?_; first|(refine nao ?_; first|refine nadm ?_|refine nmlm ?_|refine nsl ?_|refine nsr ?_)|(refine naou ?_; first|refine nadm ?_|refine nmlm ?_|refine nsl ?_|refine nsr ?_))|refine oa ?_)|refine sq ?_|refine rg ?_|refine xc ?_|refine nl ?_|refine rt ?_
  have hv := both_val (div32 hx) (mod32 x) (div32 hy) (mod32 y)
  rw [split32, split32] at hv
  obtain ⟨⟨v1, v2, v3⟩, v4⟩ := hv
  have v8 : x * y < 18446744073709551616 * 18446744073709551616 := Nat.mul_lt_mul'' hx hy
  rw [← v4] at v8
  have key := both_sum v1 v2 v3 v8
  rw [v4] at key
  clear v1 v2 v3 v4 v8
  refine r2 ⟨_, _, rfl, rfl, Nat.mod_lt _ (Nat.pos_of_ne_zero (by decide)), Nat.mod_lt _ (Nat.pos_of_ne_zero (by decide)), ?_⟩
  simp only [show min (Int.toNat 32) 64 = 32 from rfl, show (2 : Nat) ^ 32 = 4294967296 from rfl, shl32] at key ⊢
  exact key
theorem RGrow_tr (va : Value) (a : List Nat) (x : Nat) (ha : Dg a) (hx : x < 18446744073709551616) (hla : a.length ≤ 1099511627776) : Tr Tryz.prog 48 [va, Un x] [vw va (Us a)] [] fun u D => u.oneCell' = true ∧ D = [own T64 u (Us (dg (nv a * x)))] := by
  refine Tr.enter env _ Tryz.func48 (by kernel_rfl) rfl Tryz.ntmps48 rfl (by repeat (first | exact has00 | refine has01 ?_)) fun w0 => ?_
  repeat' first|(refine wo ?_; first|refine oa ?_)|refine sq ?_|refine rg ?_|refine xc ?_|refine nl ?_|refine bk ?_
  refine TC.im (own_nil T64 _) ?_
  refine TC.loop (ι := NaG) (fun g => [(7, I g.i), (6, Un g.c), (5, g.o)]) (fun g => [own T64 g.o (Us g.ys)]) (fun g => (g.ys.length = g.i ∧ g.i ≤ a.length ∧ g.c < 18446744073709551616) ∧ Dg g.ys ∧ nv g.ys + g.c * 18446744073709551616 ^ g.i = nv (a.take g.i) * x) (fun g => a.length - g.i) ⟨0, 0, nS, []⟩ [0, 1] ⟨⟨rfl, Nat.zero_le _, Nat.pos_of_ne_zero (by decide)⟩, Dg.nil, by simp [nv]⟩ ?_ (hf := by dsimp only; first | apply Fit.all | ((repeat (first | (apply Fit.nilN; (repeat (first | apply nrm_nil | apply nrm_cons)); try apply nrm_rfl) | (apply Fit.cons; focus ((repeat (first | apply Tk.here | apply Tk.there)); first | done | fail)))); first | done | fail))
  rintro ⟨i, c, o, ys⟩ ⟨⟨h1, h2, hc⟩, hd, hI⟩
  dsimp only at h1 h2 hc hd hI ⊢
  by_cases hi : i < a.length
  · have hy := ha.getD i
    have hta := nv_take_s a i
    have hBo := (both_tr (a.getD i 0) x hy hx).mono (R' := fun u D => ∃ h l, u = tup2 (Un h) (Un l) ∧ D = [] ∧ h < 18446744073709551616 ∧ l < 18446744073709551616 ∧ (Unit → h * 18446744073709551616 + l = a.getD i 0 * x)) fun u D ⟨h, l, g1, g2, g3, g4, g5⟩ => ⟨h, l, g1, g2, g3, g4, fun _ => g5⟩
    have pk : Unit → ∀ (d e : Nat), d + 18446744073709551616 * e = a.getD i 0 * x + c → nv (ys ++ [d]) + e * 18446744073709551616 ^ (i + 1) = nv (a.take (i + 1)) * x := fun _ d e h => by
      rw [nv_snoc, h1, hta, Nat.pow_succ, Nat.add_mul, ← hI]
      have := congrArg (18446744073709551616 ^ i * ·) h
      simp only [Nat.mul_add] at this
      rw [Nat.mul_assoc (18446744073709551616 ^ i) (a.getD i 0) x]
      have e1 : e * (18446744073709551616 ^ i * 18446744073709551616) = 18446744073709551616 ^ i * (18446744073709551616 * e) := by ac_rfl
      rw [e1, Nat.mul_comm c]
      omega
    have hle : Unit → a.getD i 0 * x ≤ 18446744073709551615 * 18446744073709551615 := fun _ => Nat.mul_le_mul (by omega) (by omega)
    clear hta hI
    generalize hpx : a.getD i 0 * x = px at *
    repeat' first|(refine gca ?_; first|(refine ca hBo ?_; rintro _ _ ⟨h, l, rfl, rfl, hh, hl, hhl⟩))|(refine slu [_] fun qv hqv => ?_)|(refine apu (v := o) (l := ys) (news := [_]) (fun o2 => ?_))|(refine wo ?_; first|(refine ao ?_; first|(refine nao ?_; first|refine nadm ?_)|(refine naou ?_; first|refine nadm ?_)|refine aw ?_|refine oa ?_)|refine lu ?_|refine oa ?_|refine lnm ?_|refine ixmn ?_)|(refine gc ?_; first|(refine ci (fun hB => ?_) (fun hB => ?_) <;> try (exfalso; omega)))|refine sq ?_|refine rg ?_|refine xc ?_|refine nl ?_|refine sk ?_|refine bk ?_|refine xb ?_
    · have g := grow_a (hhl ()) (hle ()) hl hc (by omega)
      exact lp ⟨i + 1, (h + 1) % 18446744073709551616, o2, ys ++ [(l + c) % 18446744073709551616]⟩ ⟨⟨by simp [h1], hi, Nat.mod_lt _ (Nat.pos_of_ne_zero (by decide))⟩, hd.snoc (Nat.mod_lt _ (Nat.pos_of_ne_zero (by decide))), pk () _ _ g⟩ (hlt := by clear g; dsimp only; omega)
    · have g := grow_b (hhl ()) hl hc (by omega)
      exact lp ⟨i + 1, h, o2, ys ++ [(l + c) % 18446744073709551616]⟩ ⟨⟨by simp [h1], hi, hh⟩, hd.snoc (Nat.mod_lt _ (Nat.pos_of_ne_zero (by decide))), pk () _ _ g⟩ (hlt := by clear g; dsimp only; omega)
  · obtain rfl : i = a.length := by omega
    rw [List.take_length] at hI
    have hn : nv (ys ++ [c]) = nv a * x := by rw [nv_snoc, h1, Nat.mul_comm]; exact hI
    have hT := fun v => RTrim_tr v (ys ++ [c]) (hd.snoc hc) (by simp; omega)
    simp only [hn] at hT
    clear hI hn
    obtain ⟨m, hm⟩ : ∃ m, m = nv a * x := ⟨_, rfl⟩
    simp only [← hm] at hT ⊢
    clear hm
    repeat' first|(refine gca ?_; first|(refine ca (hT _) ?_; rintro o3 _ ⟨ho3, rfl⟩))|(refine slu [_] fun qv hqv => ?_)|(refine apu (v := o) (l := ys) (news := [_]) (fun o2 => ?_))|(refine wo ?_; first|(refine ao ?_; first|refine oa ?_)|refine oa ?_|refine lnm ?_)|(refine gc ?_; first|(refine ci (fun hB => ?_) (fun hB => ?_) <;> try (exfalso; omega)))|refine sq ?_|refine rg ?_|refine xc ?_|refine nl ?_|refine xe ?_|refine rt ?_
    exact r1 ⟨ho3, rfl⟩
end Go.Art
set_option linter.unusedSimpArgs false
set_option linter.unusedVariables false
namespace Go.Art
open Go Go.Proofs Go.RowKit
theorem bit_val {l : List Nat} (hd : Dg l) (i : Nat) : l.getD (i / 64) 0 / 2 ^ (i % 64) % 2 = nv l / 2 ^ i % 2 := by
  have e : nv l / 2 ^ i = nv (l.drop (i / 64)) / 2 ^ (i % 64) := by
    rw [nv_drop_div hd, Nat.div_div_eq_div_mul, pow_W, ← Nat.pow_add, show 64 * (i / 64) + i % 64 = i by omega]
  have h0 : 0 < 2 ^ (i % 64) := Nat.pow_pos (by decide)
  have h1 : 18446744073709551616 = 2 ^ (i % 64) * (2 * 2 ^ (63 - i % 64)) := by
    rw [← Nat.pow_succ', ← Nat.pow_add, show i % 64 + (63 - i % 64 + 1) = 64 by omega]
  rw [e, nv_step l (i / 64)]
  generalize l.getD (i / 64) 0 = x
  generalize nv (l.drop (i / 64 + 1)) = r
  rw [h1, Nat.mul_assoc, Nat.add_mul_div_left _ _ h0, Nat.mul_assoc, Nat.add_mul_mod_self_left]
theorem bit_over {l : List Nat} (hd : Dg l) {i : Nat} (h : l.length ≤ i / 64) : nv l / 2 ^ i % 2 = 0 := by
  rw [← bit_val hd, getD_over h]; simp
theorem twice_word {x c : Nat} (hx : x < 18446744073709551616) (hc : c ≤ 1) : x * 2 ^ (min (Int.toNat 1) 64) % 18446744073709551616 ||| c = x * 2 % 18446744073709551616 + c ∧ x * 2 % 18446744073709551616 + c < 18446744073709551616 ∧ x * 2 % 18446744073709551616 + c + 18446744073709551616 * (x / 2 ^ (min (Int.toNat 63) 64)) = 2 * x + c := by
  have e1 : min (Int.toNat 1) 64 = 1 := rfl
  have e2 : (2 : Nat) ^ (min (Int.toNat 63) 64) = 9223372036854775808 := rfl
  have e3 : x * 2 % 18446744073709551616 = 2 ^ 1 * (x % 9223372036854775808) := by omega
  rw [e1, e2, Nat.pow_one, e3, or_add (by omega)]
  omega
theorem bit_div (n i : Nat) : n / 2 ^ i = 2 * (n / 2 ^ (i + 1)) + n / 2 ^ i % 2 := by
  rw [Nat.pow_succ, ← Nat.div_div_eq_div_mul]; omega
theorem set_bit {qs : List Nat} (hd : Dg qs) {Q i : Nat} (h : nv qs = Q * 2 ^ (i + 1)) (hi : i / 64 < qs.length) :
    ∃ y, qs.getD (i / 64) 0 ||| 2 ^ (i % 64) = y ∧ y < 18446744073709551616 ∧ nv (qs.set (i / 64) y) = (2 * Q + 1) * 2 ^ i := by
  have hx := hd.getD (i / 64)
  have hdv : nv (qs.drop (i / 64)) = Q * 2 ^ (i % 64 + 1) := by
    rw [nv_drop_div hd, h, pow_W, show i + 1 = (i % 64 + 1) + 64 * (i / 64) by omega, Nat.pow_add, ← Nat.mul_assoc, Nat.mul_div_cancel _ (Nat.pow_pos (by decide))]
  have hW : 18446744073709551616 = 2 ^ (i % 64 + 1) * 2 ^ (63 - i % 64) := by
    rw [← Nat.pow_add, show i % 64 + 1 + (63 - i % 64) = 64 by omega]
  have hm : qs.getD (i / 64) 0 % 2 ^ (i % 64 + 1) = 0 := by
    have h1 := nv_step qs (i / 64)
    rw [hdv] at h1
    have h2 := congrArg (· % 2 ^ (i % 64 + 1)) h1
    simp only [Nat.mul_mod_left] at h2
    rw [hW, Nat.mul_assoc, Nat.add_mul_mod_self_left] at h2
    exact h2.symm
  obtain ⟨t, ht⟩ : ∃ t, qs.getD (i / 64) 0 = 2 ^ (i % 64 + 1) * t := ⟨qs.getD (i / 64) 0 / 2 ^ (i % 64 + 1), by have := Nat.div_add_mod (qs.getD (i / 64) 0) (2 ^ (i % 64 + 1)); omega⟩
  have hp : 2 ^ (i % 64) < 2 ^ (i % 64 + 1) := Nat.pow_lt_pow_right (by decide) (Nat.lt_succ_self _)
  refine ⟨qs.getD (i / 64) 0 + 2 ^ (i % 64), ?_, ?_, ?_⟩
  · rw [ht, or_add hp]
  · have h3 : 2 ^ (i % 64 + 1) * (t + 1) ≤ 18446744073709551616 := by
      rw [hW]
      refine Nat.mul_le_mul_left _ ?_
      refine Nat.lt_of_mul_lt_mul_left (a := 2 ^ (i % 64 + 1)) ?_
      rw [← hW, ← ht]; exact hx
    rw [Nat.mul_add, Nat.mul_one, ← ht] at h3
    omega
  · have h4 := nv_set qs (i / 64) (qs.getD (i / 64) 0 + 2 ^ (i % 64)) hi
    rw [Nat.mul_add] at h4
    have h5 : 18446744073709551616 ^ (i / 64) * 2 ^ (i % 64) = 2 ^ i := by rw [pow_W, ← Nat.pow_add, show 64 * (i / 64) + i % 64 = i by omega]
    rw [Nat.add_mul, Nat.one_mul, ← h5]
    rw [Nat.pow_succ] at h
    rw [h5] at h4 ⊢
    have h6 : 2 * Q * 2 ^ i = Q * (2 ^ i * 2) := by ac_rfl
    omega
attribute [local irreducible] Fit pt own ro vw mpc lpt vels rels mow lrc dfr
theorem bit_tr (v : Value) (l : List Nat) (i : Nat) (hd : Dg l) (hi : i ≤ 1099511627776) : Tr Tryz.prog 154 [v, I i] [vw v (Us l)] [] fun u D => u = .bool (decide (nv l / 2 ^ i % 2 = 1)) ∧ D = [] := by
  obtain ⟨q, hq⟩ : ∃ q, q = i / 64 := ⟨_, rfl⟩
  obtain ⟨p, hp⟩ : ∃ p, p = i % 64 := ⟨_, rfl⟩
  have hqi : (i : Int) / 64 = q := by omega
  have hpi : (i : Int) % 64 = p := by omega
  have hbv := bit_val hd i
  have hbo := @bit_over l hd i
  rw [← hq, ← hp] at hbv
  rw [← hq] at hbo
  obtain ⟨bb, hbb⟩ : ∃ bb, bb = nv l / 2 ^ i % 2 := ⟨_, rfl⟩
  rw [← hbb] at hbv hbo ⊢
  have hmp : min ((p : Int)).toNat 64 = p := by rw [Int.toNat_natCast]; exact Nat.min_eq_left (by omega)
  obtain ⟨x, hx⟩ : ∃ x, l.getD q 0 = x := ⟨_, rfl⟩
  obtain ⟨z, hz⟩ : ∃ z, x / 2 ^ p = z := ⟨_, rfl⟩
  have hzz : Unit → x / 2 ^ (min ((p : Int)).toNat 64) = z := fun _ => by rw [hmp]; exact hz
  rw [hx, hz] at hbv
  have hxl : x < 18446744073709551616 := by rw [← hx]; exact hd.getD q
  have hzl : z < 18446744073709551616 := by rw [← hz]; exact Nat.lt_of_le_of_lt (Nat.div_le_self _ _) hxl
  have hzp : Unit → _ := fun _ => hbv
  clear hmp hz hbb hd hp hbv
  refine Tr.enter env _ Tryz.func154 (by kernel_rfl) rfl Tryz.ntmps154 rfl (by repeat (first | exact has00 | refine has01 ?_)) fun w0 => ?_
  refine TC.lenu (v := v) (l := l) fun hll => ?_
  repeat' first|(refine adiv ?_; rw [hqi])|(refine amod ?_; rw [hpi])|(refine ntu (m := (p : Int)) ?_; rw [Int.toNat_natCast])|refine lue hx ?_|refine nsre (hzz ()) ?_|(refine wo ?_; first|(refine ao ?_; first|(refine nao ?_; first|refine nrm ?_)|(refine naou ?_; first|refine nrm ?_)|refine oa ?_)|refine oa ?_|refine lnm ?_|refine ixmn ?_|refine gy ?_|refine gn ?_|(refine gsi (fun hB => ?_) (fun hB => ?_) <;> try (exfalso; omega)))|refine sq ?_|refine rg ?_|refine xc ?_|refine nl ?_|refine rt ?_
  · have e := hzp ()
    refine r1 ⟨?_, rfl⟩
    congr 1; exact decide_eq_decide.2 ⟨fun h => by omega, fun h => by omega⟩
  · have e := hbo (by omega)
    refine r1 ⟨?_, rfl⟩
    rw [decide_eq_false (by omega)]
theorem twice_tr (v : Value) (l : List Nat) (b : Bool) (hd : Dg l) (hlt : 2 * nv l + (if b then 1 else 0) < 18446744073709551616 ^ l.length) : Tr Tryz.prog 153 [v, .bool b] [] [own T64 v (Us l)] fun _ D => ∃ l', D = [own T64 v (Us l')] ∧ l'.length = l.length ∧ Dg l' ∧ nv l' = 2 * nv l + (if b then 1 else 0) := by
  cases b with
  | true =>
    refine Tr.enter env _ Tryz.func153 (by kernel_rfl) rfl Tryz.ntmps153 rfl (by repeat (first | exact has00 | refine has01 ?_)) fun w0 => ?_
    refine TC.lenu (v := v) (l := l) fun hll => ?_
    repeat' first|(refine wo ?_; first|refine oa ?_)|(refine gc ?_; first|refine ct ?_)|refine sq ?_|refine rg ?_|refine xc ?_|refine nl ?_|refine bk ?_
    refine TC.loop (ι := NaG) (fun g => [(5, I g.i), (4, Un g.c)]) (fun g => [own T64 v (Us g.ys)]) (fun g => (g.ys.length = l.length ∧ g.i ≤ l.length ∧ g.c ≤ 1) ∧ Dg g.ys ∧ (∀ j, g.i ≤ j → g.ys.getD j 0 = l.getD j 0) ∧ nv (g.ys.take g.i) + g.c * 18446744073709551616 ^ g.i = 2 * nv (l.take g.i) + 1) (fun g => l.length - g.i) ⟨0, 1, nS, l⟩ [0] ⟨⟨rfl, Nat.zero_le _, by dsimp only; omega⟩, hd, fun _ _ => rfl, by simp [nv]⟩ ?_
    rintro ⟨i, c, _, ys⟩ ⟨⟨h1, h2, hc⟩, hdy, hj, hI⟩
    dsimp only at h1 h2 hc hdy hj hI ⊢
    by_cases hi : i < l.length
    · have hx := hd.getD i
      have hxe := hj i (Nat.le_refl _)
      have hta := nv_take_s l i
      obtain ⟨w1, w2, w3⟩ := twice_word hx hc
      obtain ⟨y, hy⟩ : ∃ y, y = l.getD i 0 * 2 % 18446744073709551616 + c := ⟨_, rfl⟩
      obtain ⟨cz, hcz⟩ : ∃ cz, l.getD i 0 / 2 ^ (min (Int.toNat 63) 64) = cz := ⟨_, rfl⟩
      rw [← hy] at w1 w2 w3
      rw [hcz] at w3
      have pk : Unit → (cz ≤ 1 ∧ nv ((ys.set i y).take (i + 1)) + cz * 18446744073709551616 ^ (i + 1) = 2 * nv (l.take (i + 1)) + 1) := fun _ => by
        refine ⟨by omega, ?_⟩
        rw [nv_set_take _ _ _ (by omega), hta, Nat.pow_succ]
        have := congrArg (18446744073709551616 ^ i * ·) w3
        simp only [Nat.mul_add] at this
        have e1 : cz * (18446744073709551616 ^ i * 18446744073709551616) = 18446744073709551616 ^ i * (18446744073709551616 * cz) := by ac_rfl
        have e2 : 18446744073709551616 ^ i * (2 * l.getD i 0) = 2 * (18446744073709551616 ^ i * l.getD i 0) := by ac_rfl
        rw [e1, Nat.mul_add]
        rw [e2] at this
        rw [Nat.mul_comm c] at hI
        omega
      have q1 := fun (_ : Unit) => w1
      have q2 := fun (_ : Unit) => hcz
      clear hta hI w1 w3 hy hcz
      generalize l.getD i 0 = x at *
      repeat' first|refine lue hxe ?_|refine nsre (q2 ()) ?_|refine nsl ?_|refine nore (q1 ()) ?_ (ha := Nat.mod_lt _ (Nat.pos_of_ne_zero (by decide)))|(refine wo ?_; first|(refine ao ?_; first|refine aw ?_|refine oa ?_)|refine sou ?_|refine oa ?_|refine lnm ?_|refine ixmn ?_)|(refine gc ?_; first|(refine ci (fun hB => ?_) (fun hB => ?_) <;> try (exfalso; omega)))|refine sq ?_|refine rg ?_|refine xc ?_|refine nl ?_|refine sk ?_|refine bk ?_|refine xb ?_
      exact lp ⟨i + 1, cz, nS, ys.set i y⟩ ⟨⟨by dsimp only; rw [List.length_set]; exact h1, hi, (pk ()).1⟩, hdy.set w2, fun j h => by
        dsimp only at h ⊢
        rw [← hj j (by omega)]
        simp [List.getD_eq_getElem?_getD, show ¬ i = j by omega], (pk ()).2⟩ (hlt := by clear q1 q2 pk; dsimp only; omega)
    · obtain rfl : i = l.length := by omega
      rw [nv_take_all (by omega), nv_take_all (Nat.le_refl _)] at hI
      have hn : nv ys = 2 * nv l + 1 := by
        rcases Nat.eq_zero_or_pos c with h0 | h0
        · subst h0; omega
        · obtain rfl : c = 1 := by omega
          have := hlt
          simp at this
          omega
      clear hI
      repeat' first|(refine wo ?_; first|(refine ao ?_; first|refine oa ?_)|refine oa ?_|refine lnm ?_)|(refine gc ?_; first|(refine ci (fun hB => ?_) (fun hB => ?_) <;> try (exfalso; omega)))|refine sq ?_|refine rg ?_|refine xc ?_|refine nl ?_|refine xe ?_
      exact e0 ⟨ys, rfl, h1, hdy, hn⟩
  | false =>
    refine Tr.enter env _ Tryz.func153 (by kernel_rfl) rfl Tryz.ntmps153 rfl (by repeat (first | exact has00 | refine has01 ?_)) fun w0 => ?_
    refine TC.lenu (v := v) (l := l) fun hll => ?_
    repeat' first|(refine wo ?_; first|refine oa ?_)|(refine gc ?_; first|refine cf ?_)|refine sq ?_|refine rg ?_|refine xc ?_|refine nl ?_|refine sk ?_|refine bk ?_
    refine TC.loop (ι := NaG) (fun g => [(5, I g.i), (4, Un g.c)]) (fun g => [own T64 v (Us g.ys)]) (fun g => (g.ys.length = l.length ∧ g.i ≤ l.length ∧ g.c ≤ 1) ∧ Dg g.ys ∧ (∀ j, g.i ≤ j → g.ys.getD j 0 = l.getD j 0) ∧ nv (g.ys.take g.i) + g.c * 18446744073709551616 ^ g.i = 2 * nv (l.take g.i) + 0) (fun g => l.length - g.i) ⟨0, 0, nS, l⟩ [0] ⟨⟨rfl, Nat.zero_le _, by dsimp only; omega⟩, hd, fun _ _ => rfl, by simp [nv]⟩ ?_
    rintro ⟨i, c, _, ys⟩ ⟨⟨h1, h2, hc⟩, hdy, hj, hI⟩
    dsimp only at h1 h2 hc hdy hj hI ⊢
    by_cases hi : i < l.length
    · have hx := hd.getD i
      have hxe := hj i (Nat.le_refl _)
      have hta := nv_take_s l i
      obtain ⟨w1, w2, w3⟩ := twice_word hx hc
      obtain ⟨y, hy⟩ : ∃ y, y = l.getD i 0 * 2 % 18446744073709551616 + c := ⟨_, rfl⟩
      obtain ⟨cz, hcz⟩ : ∃ cz, l.getD i 0 / 2 ^ (min (Int.toNat 63) 64) = cz := ⟨_, rfl⟩
      rw [← hy] at w1 w2 w3
      rw [hcz] at w3
      have pk : Unit → (cz ≤ 1 ∧ nv ((ys.set i y).take (i + 1)) + cz * 18446744073709551616 ^ (i + 1) = 2 * nv (l.take (i + 1)) + 0) := fun _ => by
        refine ⟨by omega, ?_⟩
        rw [nv_set_take _ _ _ (by omega), hta, Nat.pow_succ]
        have := congrArg (18446744073709551616 ^ i * ·) w3
        simp only [Nat.mul_add] at this
        have e1 : cz * (18446744073709551616 ^ i * 18446744073709551616) = 18446744073709551616 ^ i * (18446744073709551616 * cz) := by ac_rfl
        have e2 : 18446744073709551616 ^ i * (2 * l.getD i 0) = 2 * (18446744073709551616 ^ i * l.getD i 0) := by ac_rfl
        rw [e1, Nat.mul_add]
        rw [e2] at this
        rw [Nat.mul_comm c] at hI
        omega
      have q1 := fun (_ : Unit) => w1
      have q2 := fun (_ : Unit) => hcz
      clear hta hI w1 w3 hy hcz
      generalize l.getD i 0 = x at *
      repeat' first|refine lue hxe ?_|refine nsre (q2 ()) ?_|refine nsl ?_|refine nore (q1 ()) ?_ (ha := Nat.mod_lt _ (Nat.pos_of_ne_zero (by decide)))|(refine wo ?_; first|(refine ao ?_; first|refine aw ?_|refine oa ?_)|refine sou ?_|refine oa ?_|refine lnm ?_|refine ixmn ?_)|(refine gc ?_; first|(refine ci (fun hB => ?_) (fun hB => ?_) <;> try (exfalso; omega)))|refine sq ?_|refine rg ?_|refine xc ?_|refine nl ?_|refine sk ?_|refine bk ?_|refine xb ?_
      exact lp ⟨i + 1, cz, nS, ys.set i y⟩ ⟨⟨by dsimp only; rw [List.length_set]; exact h1, hi, (pk ()).1⟩, hdy.set w2, fun j h => by
        dsimp only at h ⊢
        rw [← hj j (by omega)]
        simp [List.getD_eq_getElem?_getD, show ¬ i = j by omega], (pk ()).2⟩ (hlt := by clear q1 q2 pk; dsimp only; omega)
    · obtain rfl : i = l.length := by omega
      rw [nv_take_all (by omega), nv_take_all (Nat.le_refl _)] at hI
      have hn : nv ys = 2 * nv l + 0 := by
        rcases Nat.eq_zero_or_pos c with h0 | h0
        · subst h0; omega
        · obtain rfl : c = 1 := by omega
          have := hlt
          simp at this
          omega
      clear hI
      repeat' first|(refine wo ?_; first|(refine ao ?_; first|refine oa ?_)|refine oa ?_|refine lnm ?_)|(refine gc ?_; first|(refine ci (fun hB => ?_) (fun hB => ?_) <;> try (exfalso; omega)))|refine sq ?_|refine rg ?_|refine xc ?_|refine nl ?_|refine xe ?_
      exact e0 ⟨ys, rfl, h1, hdy, hn⟩
end Go.Art
set_option linter.unusedSimpArgs false
set_option linter.unusedVariables false
namespace Go.Art
open Go Go.Proofs Go.RowKit
theorem nv_zeros (a : List Nat) (k : Nat) : nv (a ++ List.replicate k 0) = nv a := by rw [nv_app, nv_rep, Nat.mul_zero, Nat.add_zero]
theorem zero_step (l : List Nat) {i : Nat} (h : i < l.length) : (List.replicate i 0 ++ l.drop i).set i 0 = List.replicate (i + 1) 0 ++ l.drop (i + 1) := by
  rw [List.set_append_right _ _ (by simp), List.length_replicate, Nat.sub_self, List.drop_eq_getElem_cons h, List.set_cons_zero, List.replicate_succ', List.append_assoc]
  rfl
theorem Bt_lt {a b x y : Nat} (ha : Bt a x) (hb : Bt b y) (h : x < y) : a < b := by
  rcases hb.2 with h0 | h0
  · omega
  · exact Nat.lt_of_lt_of_le ha.1 (Nat.le_trans (Nat.pow_le_pow_right (by decide) (by omega)) h0)
theorem Bt_first {a b x y : Nat} (ha : Bt a x) (hb : Bt b y) (h : y ≤ x) (h0 : b ≠ 0) : a / 2 ^ (x - y + 1) < b := by
  have hy : y ≠ 0 := fun e => by subst e; have := hb.1; simp at this; exact h0 this
  have h1 := hb.2.resolve_left hy
  refine Nat.lt_of_lt_of_le ?_ h1
  refine Nat.div_lt_of_lt_mul ?_
  rw [← Nat.pow_add, show x - y + 1 + (y - 1) = x by omega]
  exact ha.1
theorem bit_if (n : Nat) : (if decide (n % 2 = 1) = true then 1 else 0) = n % 2 := by
  rcases Nat.mod_two_eq_zero_or_one n with h | h
  · rw [h]; rfl
  · rw [h]; rfl
theorem div_round {na nb i Q r : Nat} (hE : na / 2 ^ (i + 1) = Q * nb + r) : na / 2 ^ i = 2 * Q * nb + (2 * r + na / 2 ^ i % 2) := by
  have := bit_div na i
  rw [hE, Nat.mul_add] at this
  rw [Nat.mul_assoc]
  omega
theorem div_less {na nb i Q r : Nat} (hE : na / 2 ^ i = 2 * Q * nb + r) (h : nb ≤ r) : na / 2 ^ i = (2 * Q + 1) * nb + (r - nb) := by
  rw [Nat.add_mul, Nat.one_mul]; omega
theorem div_end {na nb Q r : Nat} (hE : na = Q * nb + r) (h : r < nb) : Q = na / nb ∧ r = na % nb := by
  have h0 : 0 < nb := by omega
  rw [hE, Nat.mul_comm Q, Nat.mul_add_div h0, Nat.mul_add_mod, Nat.div_eq_of_lt h, Nat.mod_eq_of_lt h]
  exact ⟨rfl, rfl⟩
structure DvG where
  j : Nat
  qs : List Nat
  rs : List Nat
  Q : Nat
section
variable {P : Program} {E : Env P} {n : Sh} {X : Cx} {s : List K} {fr : Fr} {A : List Ch} {ops : Array Oper} {rest : List Oper} {d : Nat} {ty t t' : TypeId} {pos : String} {after : Array Edge} {x : Operand}
theorem glo (h : TO E n X s ops (⟨some d, .load t x, ty, pos, after, none⟩ :: rest) fr A) : TO E n X s ops (⟨some d, .load t x, ty, pos, after, none⟩ :: rest) fr A := h
theorem gcv (h : TO E n X s ops (⟨some d, .convert t t' x, ty, pos, after, none⟩ :: rest) fr A) : TO E n X s ops (⟨some d, .convert t t' x, ty, pos, after, none⟩ :: rest) fr A := h
end
attribute [local irreducible] Fit pt own ro vw mpc lpt vels rels mow lrc dfr
theorem less3_tr (v1 v2 : Value) (a b : List Nat) (ha : Dg a) (hb : Dg b) (hla : a.length ≤ 1099511627776) (hle : nv b ≤ nv a) : Tr Tryz.prog 156 [v1, v2] [vw v2 (Us b)] [own T64 v1 (Us a)] fun _ D => ∃ l', D = [own T64 v1 (Us l')] ∧ l'.length = a.length ∧ Dg l' ∧ nv l' = nv a - nv b := by
  have hS := RSub_tr v1 v2 a b ha hb hla hle
  have hdl : (dg (nv a - nv b)).length ≤ a.length := Nat.le_trans (dg_mono (Nat.sub_le _ _)) (dg_len_le ha)
  obtain ⟨d, hd⟩ : ∃ d, d = nv a - nv b := ⟨_, rfl⟩
  rw [← hd] at hS hdl ⊢
  refine Tr.enter env _ Tryz.func156 (by kernel_rfl) rfl Tryz.ntmps156 rfl (by repeat (first | exact has00 | refine has01 ?_)) fun w0 => ?_
  refine TC.lenu (v := v1) (l := a) fun hll => ?_
  repeat' first|(refine gca ?_; first|(refine ca hS ?_; rintro _ _ ⟨o, rfl, ho, rfl⟩))|(refine wo ?_; first|refine oa ?_)|refine sq ?_|refine rg ?_|refine xc ?_|refine nl ?_|refine bk ?_
  refine TC.loop (ι := Nat) (fun i => [(6, I i)]) (fun i => [own T64 v1 (Us (List.replicate i 0 ++ a.drop i))]) (fun i => i ≤ a.length) (fun i => a.length - i) 0 [0, 4] (Nat.zero_le _) ?_ (hf := by rw [List.replicate_zero, List.nil_append, List.drop_zero]; first | apply Fit.all | ((repeat (first | (apply Fit.nilN; (repeat (first | apply nrm_nil | apply nrm_cons)); try apply nrm_rfl) | (apply Fit.cons; focus ((repeat (first | apply Tk.here | apply Tk.there)); first | done | fail)))); first | done | fail))
  intro i hi
  have hlen : (List.replicate i 0 ++ a.drop i).length = a.length := by rw [List.length_append, List.length_replicate, List.length_drop]; omega
  by_cases hlt : i < a.length
  · have hz := zero_step a hlt
    generalize List.replicate i 0 ++ a.drop i = ys at *
    repeat' first|refine sou (l := ys) (a := 0) (j := i) ?_|(refine wo ?_; first|(refine ao ?_; first|refine aw ?_|refine oa ?_)|refine oa ?_|refine lnm ?_|refine ixmn ?_)|(refine gc ?_; first|(refine ci (fun hB => ?_) (fun hB => ?_) <;> try (exfalso; omega)))|refine sq ?_|refine rg ?_|refine xc ?_|refine nl ?_|refine sk ?_|refine bk ?_|refine xb ?_
    exact lp (i + 1) hlt (hf := by rw [← hz]; first | apply Fit.all | ((repeat (first | (apply Fit.nilN; (repeat (first | apply nrm_nil | apply nrm_cons)); try apply nrm_rfl) | (apply Fit.cons; focus ((repeat (first | apply Tk.here | apply Tk.there)); first | done | fail)))); first | done | fail))
  · obtain rfl : i = a.length := by omega
    rw [List.drop_length, List.append_nil]
    obtain ⟨zs, hzs⟩ : ∃ zs, zs = List.replicate a.length 0 := ⟨_, rfl⟩
    have hzl : zs.length = a.length := by rw [hzs, List.length_replicate]
    have hfin : Unit → ((dg d ++ zs.drop (dg d).length).length = a.length ∧ Dg (dg d ++ zs.drop (dg d).length) ∧ nv (dg d ++ zs.drop (dg d).length) = d) := fun _ => by
      refine ⟨by rw [List.length_append, List.length_drop]; omega, (Dg_dg d).app ((by rw [hzs]; exact Dg.rep _ : Dg zs).drop _), ?_⟩
      rw [hzs, List.drop_replicate, nv_zeros, nv_dg]
    rw [← hzs]
    clear hzs hlen
    repeat' first|refine cpf (v := v1) (u := o) (xs := Us zs) (cs := Us (dg d)) ?_ (hk := by rw [Us_len, Us_len, hzl]; exact hdl) (h1 := Us_one _)|(refine wo ?_; first|(refine ao ?_; first|refine oa ?_)|refine oa ?_|refine lnm ?_)|(refine gc ?_; first|(refine ci (fun hB => ?_) (fun hB => ?_) <;> try (exfalso; omega)))|refine sq ?_|refine rg ?_|refine xc ?_|refine nl ?_|refine xe ?_
    rw [Us_len, Us_drop, ← Us_app]
    exact e0 ⟨_, rfl, (hfin ()).1, (hfin ()).2.1, (hfin ()).2.2⟩
set_option maxHeartbeats 4000000 in
theorem RDiv_tr (va vb : Value) (a b : List Nat) (ha : Dg a) (hb : Dg b) (hla : 64 * a.length ≤ 16777216) (hlb : 64 * b.length ≤ 16777216) (hb0 : nv b ≠ 0) : Tr Tryz.prog 131 [va, vb] [vw va (Us a), vw vb (Us b)] [] (DivR (nv a) (nv b)) := by
  have hTb := RTrim_tr vb b hb (by omega)
  have hTa := RTrim_tr va a ha (by omega)
  have hLa := RLen_tr va a ha (by omega)
  have hbl := dg_len_le hb
  have hLb := fun v => RLen_tr v (dg (nv b)) (Dg_dg _) (by omega)
  have hdb := dg_len_pos hb0
  simp only [nv_dg] at hLb
  unfold DivR
  obtain ⟨nb, hnb⟩ : ∃ nb, nb = nv b := ⟨_, rfl⟩
  obtain ⟨na, hna⟩ : ∃ na, na = nv a := ⟨_, rfl⟩
  simp only [← hnb] at hTb hLb hbl hdb hb0 ⊢
  simp only [← hna] at hTa hLa ⊢
  refine Tr.enter env _ Tryz.func131 (by kernel_rfl) rfl Tryz.ntmps131 rfl (by repeat (first | exact has00 | refine has01 ?_)) fun w0 => ?_
  refine TC.lenu (v := va) (l := a) fun hll => ?_
  repeat' first|(refine gca ?_; first|(refine ca hTb ?_; rintro bv _ ⟨hbv, rfl⟩)|(refine ca hLa ?_; rintro _ _ ⟨la, rfl, ba, lla, rfl⟩)|(refine ca (hLb bv) ?_; rintro _ _ ⟨lb, rfl, bb, llb, rfl⟩)|(refine ca hTa ?_; rintro rv _ ⟨hrv, rfl⟩))|(refine wo ?_; first|(refine ao ?_; first|refine aw ?_|refine oa ?_)|refine oa ?_|refine lnm ?_)|(refine gc ?_; first|(refine ci (fun hB => ?_) (fun hB => ?_) <;> try (exfalso; omega)))|refine sq ?_|refine rg ?_|refine xc ?_|refine nl ?_|refine sk ?_|refine rt ?_
  · have hlt := Bt_lt ba bb (by omega)
    rw [Nat.div_eq_of_lt hlt, Nat.mod_eq_of_lt hlt, dg_zero]
    refine TX.im (own_nil T64 _) ?_
    exact r3 ⟨nS, rv, rfl, rfl, hrv, rfl⟩
  obtain ⟨f, hf⟩ : ∃ f : Nat, f = la - lb := ⟨_, rfl⟩
  have hfi : (la : Int) - lb = f := by omega
  rw [hfi]
  have h1st := Bt_first ba bb (by omega) hb0
  rw [← hf] at h1st
  have hlb1 : 1 ≤ lb := by
    rcases Nat.eq_zero_or_pos lb with h | h
    · subst h; have := bb.1; simp at this; omega
    · exact h
  have hDn := RDown_tr va a (f + 1) (by omega) ha (by omega)
  rw [← hna, show ((f + 1 : Nat) : Int) = (f : Int) + 1 by omega] at hDn
  have hfl : f < 64 * a.length := by omega
  obtain ⟨c, hc⟩ : ∃ c, c = na / 2 ^ (f + 1) := ⟨_, rfl⟩
  rw [← hc] at hDn h1st
  have hcl : (dg c).length ≤ (dg nb).length := dg_mono (Nat.le_of_lt h1st)
  have pkc := fun (_ : Unit) => hc
  have pkn : Unit → nb < 18446744073709551616 ^ (dg nb).length := fun _ => (dg_len nb _).1 (Nat.le_refl _)
  clear hc hf hfi bb ba llb lla hTa hLa hLb hTb
  refine cutK (ι := Value × Value) (fun i => i.1.oneCell' = true ∧ i.2.oneCell' = true) (fun i => [(0, va), (1, bv), (7, I f), (8, i.1), (9, i.2)]) (fun i => [own T64 i.1 (Us (List.replicate a.length 0)), own T64 i.2 (Us (List.replicate ((dg nb).length + 1) 0)), own T64 bv (Us (dg nb)), vw va (Us a)]) ?_ (fun kb => ?_)
  rotate_left
  · skip
    refine rs (fun w => Sl w va (Us a) ∧ Sl w bv (Us (dg nb))) ?_ (fun w hw => ⟨has_sl (xs := Us a) hw (by first | (apply has_vw; (repeat (first | apply List.Mem.head | apply List.Mem.tail)); first | done | fail) | (apply has_own; (repeat (first | apply List.Mem.head | apply List.Mem.tail)); first | done | fail) | (apply has_ro; (repeat (first | apply List.Mem.head | apply List.Mem.tail)); first | done | fail) | apply has_nil | ((with_reducible apply has_el); (focus (first | (apply has_vels; (repeat (first | apply List.Mem.head | apply List.Mem.tail)); first | done | fail) | (apply has_rels; (repeat (first | apply List.Mem.head | apply List.Mem.tail)); first | done | fail))); omega) | (apply has_pt; (repeat (first | apply List.Mem.head | apply List.Mem.tail)); first | done | fail) | (apply has_lpt; (repeat (first | apply List.Mem.head | apply List.Mem.tail)); first | done | fail) | (apply has_vels; (repeat (first | apply List.Mem.head | apply List.Mem.tail)); first | done | fail) | (apply has_rels; (repeat (first | apply List.Mem.head | apply List.Mem.tail)); first | done | fail) | with_reducible assumption | ((with_reducible apply has_elg); (focus (first | (apply has_velg; (repeat (first | apply List.Mem.head | apply List.Mem.tail)); first | done | fail) | (apply has_relg; (repeat (first | apply List.Mem.head | apply List.Mem.tail)); first | done | fail))); omega) | (apply has_velg; (repeat (first | apply List.Mem.head | apply List.Mem.tail)); first | done | fail) | (apply has_relg; (repeat (first | apply List.Mem.head | apply List.Mem.tail)); first | done | fail) | (apply has_vwf; (repeat (first | apply List.Mem.head | apply List.Mem.tail)); first | done | fail)), has_sl (xs := Us (dg nb)) hw (by first | (apply has_vw; (repeat (first | apply List.Mem.head | apply List.Mem.tail)); first | done | fail) | (apply has_own; (repeat (first | apply List.Mem.head | apply List.Mem.tail)); first | done | fail) | (apply has_ro; (repeat (first | apply List.Mem.head | apply List.Mem.tail)); first | done | fail) | apply has_nil | ((with_reducible apply has_el); (focus (first | (apply has_vels; (repeat (first | apply List.Mem.head | apply List.Mem.tail)); first | done | fail) | (apply has_rels; (repeat (first | apply List.Mem.head | apply List.Mem.tail)); first | done | fail))); omega) | (apply has_pt; (repeat (first | apply List.Mem.head | apply List.Mem.tail)); first | done | fail) | (apply has_lpt; (repeat (first | apply List.Mem.head | apply List.Mem.tail)); first | done | fail) | (apply has_vels; (repeat (first | apply List.Mem.head | apply List.Mem.tail)); first | done | fail) | (apply has_rels; (repeat (first | apply List.Mem.head | apply List.Mem.tail)); first | done | fail) | with_reducible assumption | ((with_reducible apply has_elg); (focus (first | (apply has_velg; (repeat (first | apply List.Mem.head | apply List.Mem.tail)); first | done | fail) | (apply has_relg; (repeat (first | apply List.Mem.head | apply List.Mem.tail)); first | done | fail))); omega) | (apply has_velg; (repeat (first | apply List.Mem.head | apply List.Mem.tail)); first | done | fail) | (apply has_relg; (repeat (first | apply List.Mem.head | apply List.Mem.tail)); first | done | fail) | (apply has_vwf; (repeat (first | apply List.Mem.head | apply List.Mem.tail)); first | done | fail))⟩)
    refine tka 0 ?_
    refine tke 1 (v := I a.length) (by rw [Us_len]) (fun w h => R_len (E := env) (xs := Us a) rfl rfl h.1) ?_
    refine tka 3 ?_
    refine tke 4 (v := I (dg nb).length) (by rw [Us_len]) (fun w h => R_len (E := env) (xs := Us (dg nb)) rfl rfl h.2) ?_
    refine tkw 5 (((dg nb).length + 1 : Nat) : Int) ?_
    refine t2 2 6 ?_ ?_
    · refine mku (m := (a.length : Int)) (fun qv => ?_)
      rw [Int.toNat_natCast]
      refine TO.one (v := qv) (xs := Us (List.replicate a.length 0)) fun hqv => ?_
      refine nl ?_
      refine te (fun w hw => ⟨has_sl (xs := Us a) hw (by first | (apply has_vw; (repeat (first | apply List.Mem.head | apply List.Mem.tail)); first | done | fail) | (apply has_own; (repeat (first | apply List.Mem.head | apply List.Mem.tail)); first | done | fail) | (apply has_ro; (repeat (first | apply List.Mem.head | apply List.Mem.tail)); first | done | fail) | apply has_nil | ((with_reducible apply has_el); (focus (first | (apply has_vels; (repeat (first | apply List.Mem.head | apply List.Mem.tail)); first | done | fail) | (apply has_rels; (repeat (first | apply List.Mem.head | apply List.Mem.tail)); first | done | fail))); omega) | (apply has_pt; (repeat (first | apply List.Mem.head | apply List.Mem.tail)); first | done | fail) | (apply has_lpt; (repeat (first | apply List.Mem.head | apply List.Mem.tail)); first | done | fail) | (apply has_vels; (repeat (first | apply List.Mem.head | apply List.Mem.tail)); first | done | fail) | (apply has_rels; (repeat (first | apply List.Mem.head | apply List.Mem.tail)); first | done | fail) | with_reducible assumption | ((with_reducible apply has_elg); (focus (first | (apply has_velg; (repeat (first | apply List.Mem.head | apply List.Mem.tail)); first | done | fail) | (apply has_relg; (repeat (first | apply List.Mem.head | apply List.Mem.tail)); first | done | fail))); omega) | (apply has_velg; (repeat (first | apply List.Mem.head | apply List.Mem.tail)); first | done | fail) | (apply has_relg; (repeat (first | apply List.Mem.head | apply List.Mem.tail)); first | done | fail) | (apply has_vwf; (repeat (first | apply List.Mem.head | apply List.Mem.tail)); first | done | fail)), has_sl (xs := Us (dg nb)) hw (by first | (apply has_vw; (repeat (first | apply List.Mem.head | apply List.Mem.tail)); first | done | fail) | (apply has_own; (repeat (first | apply List.Mem.head | apply List.Mem.tail)); first | done | fail) | (apply has_ro; (repeat (first | apply List.Mem.head | apply List.Mem.tail)); first | done | fail) | apply has_nil | ((with_reducible apply has_el); (focus (first | (apply has_vels; (repeat (first | apply List.Mem.head | apply List.Mem.tail)); first | done | fail) | (apply has_rels; (repeat (first | apply List.Mem.head | apply List.Mem.tail)); first | done | fail))); omega) | (apply has_pt; (repeat (first | apply List.Mem.head | apply List.Mem.tail)); first | done | fail) | (apply has_lpt; (repeat (first | apply List.Mem.head | apply List.Mem.tail)); first | done | fail) | (apply has_vels; (repeat (first | apply List.Mem.head | apply List.Mem.tail)); first | done | fail) | (apply has_rels; (repeat (first | apply List.Mem.head | apply List.Mem.tail)); first | done | fail) | with_reducible assumption | ((with_reducible apply has_elg); (focus (first | (apply has_velg; (repeat (first | apply List.Mem.head | apply List.Mem.tail)); first | done | fail) | (apply has_relg; (repeat (first | apply List.Mem.head | apply List.Mem.tail)); first | done | fail))); omega) | (apply has_velg; (repeat (first | apply List.Mem.head | apply List.Mem.tail)); first | done | fail) | (apply has_relg; (repeat (first | apply List.Mem.head | apply List.Mem.tail)); first | done | fail) | (apply has_vwf; (repeat (first | apply List.Mem.head | apply List.Mem.tail)); first | done | fail))⟩) ?_
      refine tka 7 ?_
      refine t1 6 ?_
      refine mku (m := (((dg nb).length + 1 : Nat) : Int)) (fun rv => ?_)
      rw [Int.toNat_natCast]
      refine TO.one (v := rv) (xs := Us (List.replicate ((dg nb).length + 1) 0)) fun hrv => ?_
      refine nl ?_
      refine te (fun w hw => ⟨has_sl (xs := Us a) hw (by first | (apply has_vw; (repeat (first | apply List.Mem.head | apply List.Mem.tail)); first | done | fail) | (apply has_own; (repeat (first | apply List.Mem.head | apply List.Mem.tail)); first | done | fail) | (apply has_ro; (repeat (first | apply List.Mem.head | apply List.Mem.tail)); first | done | fail) | apply has_nil | ((with_reducible apply has_el); (focus (first | (apply has_vels; (repeat (first | apply List.Mem.head | apply List.Mem.tail)); first | done | fail) | (apply has_rels; (repeat (first | apply List.Mem.head | apply List.Mem.tail)); first | done | fail))); omega) | (apply has_pt; (repeat (first | apply List.Mem.head | apply List.Mem.tail)); first | done | fail) | (apply has_lpt; (repeat (first | apply List.Mem.head | apply List.Mem.tail)); first | done | fail) | (apply has_vels; (repeat (first | apply List.Mem.head | apply List.Mem.tail)); first | done | fail) | (apply has_rels; (repeat (first | apply List.Mem.head | apply List.Mem.tail)); first | done | fail) | with_reducible assumption | ((with_reducible apply has_elg); (focus (first | (apply has_velg; (repeat (first | apply List.Mem.head | apply List.Mem.tail)); first | done | fail) | (apply has_relg; (repeat (first | apply List.Mem.head | apply List.Mem.tail)); first | done | fail))); omega) | (apply has_velg; (repeat (first | apply List.Mem.head | apply List.Mem.tail)); first | done | fail) | (apply has_relg; (repeat (first | apply List.Mem.head | apply List.Mem.tail)); first | done | fail) | (apply has_vwf; (repeat (first | apply List.Mem.head | apply List.Mem.tail)); first | done | fail)), has_sl (xs := Us (dg nb)) hw (by first | (apply has_vw; (repeat (first | apply List.Mem.head | apply List.Mem.tail)); first | done | fail) | (apply has_own; (repeat (first | apply List.Mem.head | apply List.Mem.tail)); first | done | fail) | (apply has_ro; (repeat (first | apply List.Mem.head | apply List.Mem.tail)); first | done | fail) | apply has_nil | ((with_reducible apply has_el); (focus (first | (apply has_vels; (repeat (first | apply List.Mem.head | apply List.Mem.tail)); first | done | fail) | (apply has_rels; (repeat (first | apply List.Mem.head | apply List.Mem.tail)); first | done | fail))); omega) | (apply has_pt; (repeat (first | apply List.Mem.head | apply List.Mem.tail)); first | done | fail) | (apply has_lpt; (repeat (first | apply List.Mem.head | apply List.Mem.tail)); first | done | fail) | (apply has_vels; (repeat (first | apply List.Mem.head | apply List.Mem.tail)); first | done | fail) | (apply has_rels; (repeat (first | apply List.Mem.head | apply List.Mem.tail)); first | done | fail) | with_reducible assumption | ((with_reducible apply has_elg); (focus (first | (apply has_velg; (repeat (first | apply List.Mem.head | apply List.Mem.tail)); first | done | fail) | (apply has_relg; (repeat (first | apply List.Mem.head | apply List.Mem.tail)); first | done | fail))); omega) | (apply has_velg; (repeat (first | apply List.Mem.head | apply List.Mem.tail)); first | done | fail) | (apply has_relg; (repeat (first | apply List.Mem.head | apply List.Mem.tail)); first | done | fail) | (apply has_vwf; (repeat (first | apply List.Mem.head | apply List.Mem.tail)); first | done | fail))⟩) ?_
      refine tka 8 ?_
      refine t0 ?_
      refine xc ?_
      exact kb (qv, rv) ⟨hqv, hrv⟩ _ _ (by (repeat (refine Sub.cons rfl (by first | rfl | go_num) ?_)); exact Sub.nil) (by first | apply Fit.all | ((repeat (first | (apply Fit.nilN; (repeat (first | apply nrm_nil | apply nrm_cons)); try apply nrm_rfl) | (apply Fit.cons; focus ((repeat (first | apply Tk.here | apply Tk.there)); first | done | fail)))); first | done | fail))
    · refine mku (m := (((dg nb).length + 1 : Nat) : Int)) (fun rv => ?_)
      rw [Int.toNat_natCast]
      refine TO.one (v := rv) (xs := Us (List.replicate ((dg nb).length + 1) 0)) fun hrv => ?_
      refine nl ?_
      refine te (fun w hw => ⟨has_sl (xs := Us a) hw (by first | (apply has_vw; (repeat (first | apply List.Mem.head | apply List.Mem.tail)); first | done | fail) | (apply has_own; (repeat (first | apply List.Mem.head | apply List.Mem.tail)); first | done | fail) | (apply has_ro; (repeat (first | apply List.Mem.head | apply List.Mem.tail)); first | done | fail) | apply has_nil | ((with_reducible apply has_el); (focus (first | (apply has_vels; (repeat (first | apply List.Mem.head | apply List.Mem.tail)); first | done | fail) | (apply has_rels; (repeat (first | apply List.Mem.head | apply List.Mem.tail)); first | done | fail))); omega) | (apply has_pt; (repeat (first | apply List.Mem.head | apply List.Mem.tail)); first | done | fail) | (apply has_lpt; (repeat (first | apply List.Mem.head | apply List.Mem.tail)); first | done | fail) | (apply has_vels; (repeat (first | apply List.Mem.head | apply List.Mem.tail)); first | done | fail) | (apply has_rels; (repeat (first | apply List.Mem.head | apply List.Mem.tail)); first | done | fail) | with_reducible assumption | ((with_reducible apply has_elg); (focus (first | (apply has_velg; (repeat (first | apply List.Mem.head | apply List.Mem.tail)); first | done | fail) | (apply has_relg; (repeat (first | apply List.Mem.head | apply List.Mem.tail)); first | done | fail))); omega) | (apply has_velg; (repeat (first | apply List.Mem.head | apply List.Mem.tail)); first | done | fail) | (apply has_relg; (repeat (first | apply List.Mem.head | apply List.Mem.tail)); first | done | fail) | (apply has_vwf; (repeat (first | apply List.Mem.head | apply List.Mem.tail)); first | done | fail)), has_sl (xs := Us (dg nb)) hw (by first | (apply has_vw; (repeat (first | apply List.Mem.head | apply List.Mem.tail)); first | done | fail) | (apply has_own; (repeat (first | apply List.Mem.head | apply List.Mem.tail)); first | done | fail) | (apply has_ro; (repeat (first | apply List.Mem.head | apply List.Mem.tail)); first | done | fail) | apply has_nil | ((with_reducible apply has_el); (focus (first | (apply has_vels; (repeat (first | apply List.Mem.head | apply List.Mem.tail)); first | done | fail) | (apply has_rels; (repeat (first | apply List.Mem.head | apply List.Mem.tail)); first | done | fail))); omega) | (apply has_pt; (repeat (first | apply List.Mem.head | apply List.Mem.tail)); first | done | fail) | (apply has_lpt; (repeat (first | apply List.Mem.head | apply List.Mem.tail)); first | done | fail) | (apply has_vels; (repeat (first | apply List.Mem.head | apply List.Mem.tail)); first | done | fail) | (apply has_rels; (repeat (first | apply List.Mem.head | apply List.Mem.tail)); first | done | fail) | with_reducible assumption | ((with_reducible apply has_elg); (focus (first | (apply has_velg; (repeat (first | apply List.Mem.head | apply List.Mem.tail)); first | done | fail) | (apply has_relg; (repeat (first | apply List.Mem.head | apply List.Mem.tail)); first | done | fail))); omega) | (apply has_velg; (repeat (first | apply List.Mem.head | apply List.Mem.tail)); first | done | fail) | (apply has_relg; (repeat (first | apply List.Mem.head | apply List.Mem.tail)); first | done | fail) | (apply has_vwf; (repeat (first | apply List.Mem.head | apply List.Mem.tail)); first | done | fail))⟩) ?_
      refine t1 2 ?_
      refine mku (m := (a.length : Int)) (fun qv => ?_)
      rw [Int.toNat_natCast]
      refine TO.one (v := qv) (xs := Us (List.replicate a.length 0)) fun hqv => ?_
      refine nl ?_
      refine te (fun w hw => ⟨has_sl (xs := Us a) hw (by first | (apply has_vw; (repeat (first | apply List.Mem.head | apply List.Mem.tail)); first | done | fail) | (apply has_own; (repeat (first | apply List.Mem.head | apply List.Mem.tail)); first | done | fail) | (apply has_ro; (repeat (first | apply List.Mem.head | apply List.Mem.tail)); first | done | fail) | apply has_nil | ((with_reducible apply has_el); (focus (first | (apply has_vels; (repeat (first | apply List.Mem.head | apply List.Mem.tail)); first | done | fail) | (apply has_rels; (repeat (first | apply List.Mem.head | apply List.Mem.tail)); first | done | fail))); omega) | (apply has_pt; (repeat (first | apply List.Mem.head | apply List.Mem.tail)); first | done | fail) | (apply has_lpt; (repeat (first | apply List.Mem.head | apply List.Mem.tail)); first | done | fail) | (apply has_vels; (repeat (first | apply List.Mem.head | apply List.Mem.tail)); first | done | fail) | (apply has_rels; (repeat (first | apply List.Mem.head | apply List.Mem.tail)); first | done | fail) | with_reducible assumption | ((with_reducible apply has_elg); (focus (first | (apply has_velg; (repeat (first | apply List.Mem.head | apply List.Mem.tail)); first | done | fail) | (apply has_relg; (repeat (first | apply List.Mem.head | apply List.Mem.tail)); first | done | fail))); omega) | (apply has_velg; (repeat (first | apply List.Mem.head | apply List.Mem.tail)); first | done | fail) | (apply has_relg; (repeat (first | apply List.Mem.head | apply List.Mem.tail)); first | done | fail) | (apply has_vwf; (repeat (first | apply List.Mem.head | apply List.Mem.tail)); first | done | fail)), has_sl (xs := Us (dg nb)) hw (by first | (apply has_vw; (repeat (first | apply List.Mem.head | apply List.Mem.tail)); first | done | fail) | (apply has_own; (repeat (first | apply List.Mem.head | apply List.Mem.tail)); first | done | fail) | (apply has_ro; (repeat (first | apply List.Mem.head | apply List.Mem.tail)); first | done | fail) | apply has_nil | ((with_reducible apply has_el); (focus (first | (apply has_vels; (repeat (first | apply List.Mem.head | apply List.Mem.tail)); first | done | fail) | (apply has_rels; (repeat (first | apply List.Mem.head | apply List.Mem.tail)); first | done | fail))); omega) | (apply has_pt; (repeat (first | apply List.Mem.head | apply List.Mem.tail)); first | done | fail) | (apply has_lpt; (repeat (first | apply List.Mem.head | apply List.Mem.tail)); first | done | fail) | (apply has_vels; (repeat (first | apply List.Mem.head | apply List.Mem.tail)); first | done | fail) | (apply has_rels; (repeat (first | apply List.Mem.head | apply List.Mem.tail)); first | done | fail) | with_reducible assumption | ((with_reducible apply has_elg); (focus (first | (apply has_velg; (repeat (first | apply List.Mem.head | apply List.Mem.tail)); first | done | fail) | (apply has_relg; (repeat (first | apply List.Mem.head | apply List.Mem.tail)); first | done | fail))); omega) | (apply has_velg; (repeat (first | apply List.Mem.head | apply List.Mem.tail)); first | done | fail) | (apply has_relg; (repeat (first | apply List.Mem.head | apply List.Mem.tail)); first | done | fail) | (apply has_vwf; (repeat (first | apply List.Mem.head | apply List.Mem.tail)); first | done | fail))⟩) ?_
      refine tka 7 ?_
      refine tka 8 ?_
      refine t0 ?_
      refine xc ?_
      exact kb (qv, rv) ⟨hqv, hrv⟩ _ _ (by (repeat (refine Sub.cons rfl (by first | rfl | go_num) ?_)); exact Sub.nil) (by first | apply Fit.all | ((repeat (first | (apply Fit.nilN; (repeat (first | apply nrm_nil | apply nrm_cons)); try apply nrm_rfl) | (apply Fit.cons; focus ((repeat (first | apply Tk.here | apply Tk.there)); first | done | fail)))); first | done | fail))
  rintro ⟨qv, rv⟩ ⟨hqv, hrv⟩
  dsimp only at hqv hrv ⊢
  obtain ⟨zs, hzs⟩ : ∃ zs, zs = List.replicate ((dg nb).length + 1) 0 := ⟨_, rfl⟩
  have hzl : zs.length = (dg nb).length + 1 := by rw [hzs, List.length_replicate]
  have hzD : Dg zs := by rw [hzs]; exact Dg.rep _
  have hz0 : Unit → nv (dg c ++ zs.drop (dg c).length) = c := fun _ => by rw [hzs, List.drop_replicate, nv_zeros, nv_dg]
  rw [← hzs]
  clear hzs
  repeat' first|(refine gca ?_; first|(refine ca hDn ?_; rintro _ _ ⟨cv, rfl, hcv, rfl⟩))|(refine cpf (v := rv) (u := cv) (xs := Us zs) (cs := Us (dg c)) ?_ (hk := by rw [Us_len, Us_len, hzl]; omega) (h1 := Us_one _); rw [Us_len, Us_drop, ← Us_app])|(refine wo ?_; first|(refine ao ?_; first|refine aw ?_)|refine oa ?_)|refine sq ?_|refine rg ?_|refine xc ?_|refine nl ?_|refine bk ?_
  have hcz : (dg c ++ zs.drop (dg c).length).length = (dg nb).length + 1 := by rw [List.length_append, List.length_drop]; omega
  refine TC.loop (ι := DvG) (fun g => [(12, I ((g.j : Int) - 1))]) (fun g => [own T64 qv (Us g.qs), own T64 rv (Us g.rs)]) (fun g => (g.j ≤ f + 1 ∧ g.qs.length = a.length ∧ g.rs.length = (dg nb).length + 1) ∧ (Dg g.qs ∧ Dg g.rs) ∧ nv g.qs = g.Q * 2 ^ g.j ∧ na / 2 ^ g.j = g.Q * nb + nv g.rs ∧ nv g.rs < nb) (fun g => g.j)
    ⟨f + 1, List.replicate a.length 0, dg c ++ zs.drop (dg c).length, 0⟩ [0, 1, 8, 9] ⟨⟨Nat.le_refl _, by simp, hcz⟩, ⟨Dg.rep _, (Dg_dg c).app (hzD.drop _)⟩, by dsimp only; rw [nv_rep, Nat.zero_mul], by dsimp only; rw [hz0 (), Nat.zero_mul, Nat.zero_add]; exact (pkc ()).symm, by dsimp only; rw [hz0 ()]; exact h1st⟩ ?_ (hs := by dsimp only; rw [show ((f + 1 : Nat) : Int) - 1 = (f : Int) by omega]; (repeat (refine Sub.cons rfl (by first | rfl | go_num) ?_)); exact Sub.nil)
  clear hz0 pkc hcz hzD hzl hcl h1st hDn
  rintro ⟨j, qs, rs, Q⟩ ⟨⟨h1, h2, h3⟩, ⟨hdq, hdr⟩, hI, hE, hR⟩
  dsimp only at h1 h2 h3 hdq hdr hI hE hR ⊢
  rcases Nat.eq_zero_or_pos j with hj | hj
  · subst hj
    rw [Nat.pow_zero, Nat.mul_one] at hI
    rw [Nat.pow_zero, Nat.div_one] at hE
    obtain ⟨k1, k2⟩ := div_end hE hR
    have hT1 := RTrim_tr qv qs hdq (by omega)
    have hT2 := RTrim_tr rv rs hdr (by omega)
    rw [hI, k1] at hT1
    rw [k2] at hT2
    clear hI hE k1 k2
    repeat' first|(refine gca ?_; first|(refine ca hT1 ?_; rintro q3 _ ⟨hq3, rfl⟩)|(refine ca hT2 ?_; rintro r3' _ ⟨hr3, rfl⟩))|(refine wo ?_; first|(refine ao ?_; first|refine oa ?_)|refine oa ?_)|(refine gc ?_; first|refine cf ?_)|refine sq ?_|refine rg ?_|refine xc ?_|refine nl ?_|refine xe ?_|refine rt ?_
    exact r3 ⟨q3, r3', rfl, hq3, hr3, rfl⟩
  obtain ⟨i, rfl⟩ : ∃ i, j = i + 1 := ⟨j - 1, by omega⟩
  have hii : ((i + 1 : Nat) : Int) - 1 = (i : Int) := by omega
  rw [hii]
  have hBt := bit_tr va a i ha (by omega)
  rw [← hna] at hBt
  have hE2 := div_round hE
  obtain ⟨bt, hbt⟩ : ∃ bt, bt = na / 2 ^ i % 2 := ⟨_, rfl⟩
  have hb2 : bt ≤ 1 := by rw [hbt]; omega
  have hTw := twice_tr rv rs (decide (bt = 1)) hdr (by
    rw [hbt, bit_if, h3, Nat.pow_succ]
    have := pkn ()
    omega)
  have hif : (if decide (bt = 1) = true then 1 else 0) = bt := by rw [hbt]; exact bit_if _
  rw [hif] at hTw
  rw [← hbt] at hBt hE2
  obtain ⟨y, hy1, hy2, hy3⟩ := set_bit hdq hI (i := i) (by omega)
  have hqi : (i : Int) / 64 = ((i / 64 : Nat) : Int) := by omega
  have hpi : (i : Int) % 64 = ((i % 64 : Nat) : Int) := by omega
  obtain ⟨q0, hq0⟩ : ∃ q0, q0 = i / 64 := ⟨_, rfl⟩
  obtain ⟨p0, hp0⟩ : ∃ p0, p0 = i % 64 := ⟨_, rfl⟩
  rw [← hq0] at hqi hy1 hy3
  rw [← hp0] at hpi hy1
  have hp63 : p0 < 64 := by omega
  have hq0l : q0 < qs.length := by omega
  obtain ⟨pw, hpw⟩ : ∃ pw, pw = 2 ^ p0 := ⟨_, rfl⟩
  have hpwl : pw < 18446744073709551616 := by
    have := Nat.pow_lt_pow_right (a := 2) (by decide) hp63
    rw [← hpw] at this
    exact Nat.lt_of_lt_of_eq this rfl
  have hpw2 : Unit → 1 * 2 ^ (min ((p0 : Int)).toNat 64) % 18446744073709551616 = pw := fun _ => by
    rw [Int.toNat_natCast, Nat.min_eq_left (by omega), Nat.one_mul, ← hpw, Nat.mod_eq_of_lt hpwl]
  rw [← hpw] at hy1
  have hx := hdq.getD q0
  obtain ⟨x, hxe⟩ : ∃ x, qs.getD q0 0 = x := ⟨_, rfl⟩
  rw [hxe] at hy1 hx
  have py1 := fun (_ : Unit) => hy1
  have py3 := fun (_ : Unit) => hy3
  have pI : Unit → nv qs = 2 * Q * 2 ^ i := fun _ => by rw [hI, Nat.pow_succ]; ac_rfl
  have pE2 := fun (_ : Unit) => hE2
  have hrl : rs.length ≤ 1099511627776 := by omega
  have pF : Unit → (i ≤ f + 1 ∧ qs.length = a.length ∧ rs.length = (dg nb).length + 1) := fun _ => ⟨by omega, h2, h3⟩
  have hi40 : i ≤ 1099511627776 := by omega
  have pR : Unit → (nv rs < nb ∧ bt ≤ 1) := fun _ => ⟨hR, hb2⟩
  clear hy1 hy3 hI hE hE2 hpw hbt hif hii hq0 hp0 hll hla hlb hbl hdb hb0 hlb1 hfl h1 h2 h3 hj hnb hna hR hb2 pkn
  by_cases hge : nb ≤ 2 * nv rs + bt
  · have pE3 : Unit → _ := fun _ => div_less (pE2 ()) hge
    have hcm : ∀ rs2, nv rs2 = 2 * nv rs + bt → ¬ cmpN (nv rs2) (nv (dg nb)) < 0 := fun rs2 h => by rw [cmpN_lt, h, nv_dg]; omega
    repeat' first|(refine gca ?_; first|(refine ca hBt ?_; rintro _ _ ⟨rfl, rfl⟩)|(refine ca hTw ?_; rintro _ _ ⟨rs2, rfl, hl2, hd2, hn2⟩)|(refine ca (RCmp_tr rv bv rs2 (dg nb) hd2 (Dg_dg _)) ?_; rintro _ _ ⟨rfl, rfl⟩; have hc2 := hcm rs2 hn2; generalize cmpN (nv rs2) (nv (dg nb)) = cm at hc2 ⊢)|(refine ca (less3_tr rv bv rs2 (dg nb) hd2 (Dg_dg _) (by omega) (by rw [hn2, nv_dg]; exact hge)) ?_; rintro _ _ ⟨rs3, rfl, hl3, hd3, hn3⟩))|(refine ao ?_; first | (refine adiv ?_; rw [hqi]) | (refine amod ?_; rw [hpi]))|(refine gcv ?_; refine ntu (m := (p0 : Int)) ?_; rw [Int.toNat_natCast])|(refine glo ?_; refine lue hxe ?_)|(refine nao ?_; first | refine nsle (hpw2 ()) ?_ | refine nore (py1 ()) ?_)|(refine wo ?_; first|(refine ao ?_; first|refine aw ?_|refine oa ?_)|refine sou ?_|refine oa ?_|refine ixmn ?_)|(refine gc ?_; first|refine ct ?_|(refine ci (fun hB => ?_) (fun hB => ?_) <;> try (exfalso; omega)))|refine sq ?_|refine rg ?_|refine xc ?_|refine nl ?_|refine sk ?_|refine bk ?_|refine xb ?_
    exact lp ⟨i, qs.set q0 y, rs3, 2 * Q + 1⟩ ⟨⟨(pF ()).1, by dsimp only; rw [List.length_set]; exact (pF ()).2.1, by dsimp only; rw [hl3, hl2]; exact (pF ()).2.2⟩, ⟨hdq.set hy2, hd3⟩, py3 (), by dsimp only; rw [hn3, hn2, nv_dg]; exact pE3 (), by dsimp only; rw [hn3, hn2, nv_dg]; have := pR (); omega⟩ (hlt := by dsimp only; omega)
  · have hcm : ∀ rs2, nv rs2 = 2 * nv rs + bt → cmpN (nv rs2) (nv (dg nb)) < 0 := fun rs2 h => by rw [cmpN_lt, h, nv_dg]; omega
    repeat' first|(refine gca ?_; first|(refine ca hBt ?_; rintro _ _ ⟨rfl, rfl⟩)|(refine ca hTw ?_; rintro _ _ ⟨rs2, rfl, hl2, hd2, hn2⟩)|(refine ca (RCmp_tr rv bv rs2 (dg nb) hd2 (Dg_dg _)) ?_; rintro _ _ ⟨rfl, rfl⟩; have hc2 := hcm rs2 hn2; generalize cmpN (nv rs2) (nv (dg nb)) = cm at hc2 ⊢))|(refine wo ?_; first|(refine ao ?_; first|refine aw ?_|refine oa ?_)|refine oa ?_)|(refine gc ?_; first|refine ct ?_|(refine ci (fun hB => ?_) (fun hB => ?_) <;> try (exfalso; omega)))|refine sq ?_|refine rg ?_|refine xc ?_|refine nl ?_|refine sk ?_|refine bk ?_|refine xb ?_
    exact lp ⟨i, qs, rs2, 2 * Q⟩ ⟨⟨(pF ()).1, (pF ()).2.1, by dsimp only; rw [hl2]; exact (pF ()).2.2⟩, ⟨hdq, hd2⟩, pI (), by dsimp only; rw [hn2]; exact pE2 (), by dsimp only; rw [hn2]; have := pR (); omega⟩ (hlt := by dsimp only; omega)
end Go.Art
set_option linter.unusedSimpArgs false
set_option linter.unusedVariables false
namespace Go.Art
open Go Go.Proofs Go.RowKit

def setPartsF (pf : Nat → Option (Nat × Nat)) : List Value → List (Nat × Value) → Option (List Value)
  | cs, [] => some cs
  | cs, (i, v) :: r => match pf i with
    | some (off, sz) => bif Nat.beq v.cells.size sz && Nat.ble (off + sz) cs.length then setPartsF pf (cs.take off ++ v.cells.toList ++ cs.drop (off + sz)) r else none
    | none => none
section
variable {P : Program} {E : Env P} {n : Sh} {X : Cx} {s : List K} {fr : Fr} {A A' : List Ch} {ops : Array Oper} {rest : List Oper} {d m sz sz1 by_ by1 : Nat} {ty t t' el : TypeId} {pos : String} {after : Array Edge} {x y : Operand} {w : World} {cs zs vs : List Value} {v z : Value} {parts : List (Nat × Operand)} {ps : List (Nat × Value)} {dt : TypeDesc} {i : Int} {k1 : IntKind}
end
section
variable {P : Program} {E : Env P} {n : Sh} {X : Cx} {s : List K} {fr : Fr} {A : List Ch} {ops : Array Oper} {rest : List Oper} {d : Nat} {ty : TypeId} {pos : String} {after : Array Edge} {v : Value} {f : FuncId} {g : Operand} {cap : Array Value} {args : List Operand} {ats : Array TypeId} {vs : List Value} {pre : List Ch} {R : Value → List Ch → Prop}
end
end Go.Art
namespace Go.Art
open Go Go.Proofs
def renSort : Shelf.Ren :=
{
  f := fun x =>
    match x with
    | 189 => 136
    | 125 => 159
    | 257 => 158
    | 128 => 182
    | 129 => 124
    | 294 => 173
    | 295 => 174
    | 296 => 175
    | 297 => 176
    | 298 => 177
    | 299 => 178
    | 216 => 179
    | 300 => 180
    | 301 => 181
    | 328 => 188
    | 329 => 189
    | 330 => 190
    | 331 => 191
    | 332 => 192
    | 215 => 193
    | 343 => 195
    | n => n,
  t := fun x =>
    match x with
    | 28 => 22
    | 3 => 3
    | 46 => 72
    | 0 => 0
    | 51 => 191
    | 53 => 45
    | 4 => 4
    | 183 => 185
    | 182 => 184
    | 131 => 150
    | 5 => 5
    | 9 => 9
    | 218 => 194
    | 222 => 197
    | 228 => 199
    | 229 => 200
    | n => n,
  g := fun x =>
    have n := x;
    n }
theorem laysSort : Lays.n189 Tryz.prog renSort :=
{ mixed := Eq.refl true, f125 := Eq.trans Tryz.func159 (congrArg some (Eq.refl (Body.n125 renSort))),
  f128 := Eq.trans Tryz.func182 (congrArg some (Eq.refl (Body.n128 renSort))),
  f129 := Eq.trans Tryz.func124 (congrArg some (Eq.refl (Body.n129 renSort))),
  f189 := Eq.trans Tryz.func136 (congrArg some (Eq.refl (Body.n189 renSort))),
  f215 := Eq.trans Tryz.func193 (congrArg some (Eq.refl (Body.n215 renSort))),
  f216 := Eq.trans Tryz.func179 (congrArg some (Eq.refl (Body.n216 renSort))),
  f257 := Eq.trans Tryz.func158 (congrArg some (Eq.refl (Body.n257 renSort))),
  f294 := Eq.trans Tryz.func173 (congrArg some (Eq.refl (Body.n294 renSort))),
  f295 := Eq.trans Tryz.func174 (congrArg some (Eq.refl (Body.n295 renSort))),
  f296 := Eq.trans Tryz.func175 (congrArg some (Eq.refl (Body.n296 renSort))),
  f297 := Eq.trans Tryz.func176 (congrArg some (Eq.refl (Body.n297 renSort))),
  f298 := Eq.trans Tryz.func177 (congrArg some (Eq.refl (Body.n298 renSort))),
  f299 := Eq.trans Tryz.func178 (congrArg some (Eq.refl (Body.n299 renSort))),
  f300 := Eq.trans Tryz.func180 (congrArg some (Eq.refl (Body.n300 renSort))),
  f301 := Eq.trans Tryz.func181 (congrArg some (Eq.refl (Body.n301 renSort))),
  f328 := Eq.trans Tryz.func188 (congrArg some (Eq.refl (Body.n328 renSort))),
  f329 := Eq.trans Tryz.func189 (congrArg some (Eq.refl (Body.n329 renSort))),
  f330 := Eq.trans Tryz.func190 (congrArg some (Eq.refl (Body.n330 renSort))),
  f331 := Eq.trans Tryz.func191 (congrArg some (Eq.refl (Body.n331 renSort))),
  f332 := Eq.trans Tryz.func192 (congrArg some (Eq.refl (Body.n332 renSort))),
  f343 := Eq.trans Tryz.func195 (congrArg some (Eq.refl (Body.n343 renSort))), t0 := Tryz.underlying0,
  a0 := Tryz.isAgg0, z0 := Tryz.sizeOf0, v0 := Tryz.zeroValue0, t3 := Tryz.underlying3, a3 := Tryz.isAgg3,
  z3 := Tryz.sizeOf3, v3 := Tryz.zeroValue3, t4 := Tryz.underlying4, a4 := Tryz.isAgg4, z4 := Tryz.sizeOf4,
  v4 := Tryz.zeroValue4, t5 := Tryz.underlying5, a5 := Tryz.isAgg5, z5 := Tryz.sizeOf5, v5 := Tryz.zeroValue5,
  t9 := Tryz.underlying9, a9 := Tryz.isAgg9, z9 := Tryz.sizeOf9, v9 := Tryz.zeroValue9, t28 := Tryz.underlying22,
  a28 := Tryz.isAgg22, z28 := Tryz.sizeOf22, v28 := Tryz.zeroValue22, t46 := Tryz.underlying72, a46 := Tryz.isAgg72,
  z46 := Tryz.sizeOf72, v46 := Tryz.zeroValue72, t51 := Tryz.underlying191, a51 := Tryz.isAgg191, z51 := Tryz.sizeOf191,
  v51 := Tryz.zeroValue191, t53 := Tryz.underlying45, a53 := Tryz.isAgg45, z53 := Tryz.sizeOf45,
  v53 := Tryz.zeroValue45, t131 := Tryz.underlying150, a131 := Tryz.isAgg150, z131 := Tryz.sizeOf150,
  v131 := Tryz.zeroValue150, t182 := Tryz.underlying184, a182 := Tryz.isAgg184, z182 := Tryz.sizeOf184,
  v182 := Tryz.zeroValue184, t183 := Tryz.underlying185, a183 := Tryz.isAgg185, z183 := Tryz.sizeOf185,
  v183 := Tryz.zeroValue185, t218 := Tryz.underlying194, a218 := Tryz.isAgg194, z218 := Tryz.sizeOf194,
  v218 := Tryz.zeroValue194, t222 := Tryz.underlying197, a222 := Tryz.isAgg197, z222 := Tryz.sizeOf197,
  v222 := Tryz.zeroValue197, t228 := Tryz.underlying199, a228 := Tryz.isAgg199, z228 := Tryz.sizeOf199,
  v228 := Tryz.zeroValue199, t229 := Tryz.underlying200, a229 := Tryz.isAgg200, z229 := Tryz.sizeOf200,
  v229 := Tryz.zeroValue200 }
end Go.Art
set_option linter.unusedSimpArgs false
set_option linter.unusedVariables false
namespace Go.Art
open Go Go.Proofs Go.RowKit

def srt (xs : List Int) : List Int := xs.mergeSort fun x y => decide (x ≤ y)
theorem srt_perm (xs : List Int) : (srt xs).Perm xs := List.mergeSort_perm xs _
theorem srt_length (xs : List Int) : (srt xs).length = xs.length := (srt_perm xs).length_eq
theorem srt_sorted (xs : List Int) : (srt xs).Pairwise (· ≤ ·) := by
  have h := List.pairwise_mergeSort (le := fun x y : Int => decide (x ≤ y)) (fun a b c h1 h2 => by simp at *; omega) (fun a b => by simp; omega) xs
  exact h.imp fun h => by simpa using h


theorem Sort_tr (v : Value) (xs : List Int) (hlen : xs.length < 4611686018427387904) : Tr Tryz.prog 136 [v] [] [own 3 v (Is xs)] fun u D => u = .tuple #[] ∧ D = [own 3 v (Is (srt xs))] := by
  refine ⟨fun w hw => ?_, fun _ h => nomatch h⟩
  have hO : OwnO w 3 v (Is xs) := hw.h (own 3 v (Is xs)) (by simp)
  have fin : ∀ (w' : World) (u : Value), Upd w w' v.ownBlock.toList → OwnO w' 3 v (Is (srt xs)) → u = .tuple #[] → PR w [own 3 v (Is xs)] (fun u D => u = .tuple #[] ∧ D = [own 3 v (Is (srt xs))]) u w' := by
    intro w' u hU hO' hu
    refine ⟨[own 3 v (Is (srt xs))], ⟨hu, rfl⟩, Sat.one hO', Mv.upd hU (fun b hb => .inl (wrs_one.2 (by show v.ownBlock = some b; simpa using hb))) (fun b hb => .inl (wrs_one.2 (by have := wrs_one.1 hb; exact this))) (fun b hb => (by have := rds_one.1 hb; exact this.elim)), fun c hc b hb => ?_⟩
    obtain rfl : c = own 3 v (Is (srt xs)) := by simpa using hc
    exact hb
  refine ⟨⟨_, Tryz.func136, rfl, rfl⟩, ?_⟩
  have hl := Is_len xs
  rcases hO with ⟨rfl, h0⟩ | ⟨b, o, cap, cur, rfl, hb, h1, h2, h3, h4⟩
  · obtain rfl : xs = [] := by cases xs with | nil => rfl | cons => cases h0
    exact (calls_of_every_depth fun D => AnyS.slices_Sort_int_none_in laysSort D none 0 w).mono fun e w' ⟨he, hw⟩ => by
      subst he hw
      exact ⟨_, rfl, fin _ _ (Upd.refl _ _) (by rw [show srt [] = [] by simp [srt]]; exact .inl ⟨rfl, rfl⟩) rfl⟩
  · have hcell : ∀ j, j < xs.length → w.cell? ⟨b, o + j, none⟩ = some (I (xs.getD j 0)) ∧ w.frozen? ⟨b, o + j, none⟩ = false := fun j hj => by
      have hg := Is_get xs j hj
      rw [← h4, List.getElem?_take, if_pos (by omega), List.getElem?_drop] at hg
      exact ⟨blk_cell hb (by simpa using hg), frozen_of_row w b (o + j) cur _ hb⟩
    have hH : Sort.Holds (Value.int .i64) w b o xs.toArray := fun j hj => by
      have hj' : j < xs.length := by simpa using hj
      obtain ⟨h5, h6⟩ := hcell j hj'
      refine ⟨?_, h6⟩
      rw [h5]
      simp [List.getD_eq_getElem?_getD, hj']
    rw [hl] at fin ⊢
    refine (calls_of_every_depth fun D => AnyS.slices_Sort_int_in laysSort D b o cap xs w hH (lt_of_heap hb) hlen).mono fun e w' ⟨he, n, os, hw⟩ => ?_
    subst he
    refine ⟨_, rfl, fin _ _ ?_ ?_ rfl⟩
    · subst hw
      refine ⟨rfl, rfl, rfl, by simp [Sort.ahead], fun k hk hn => ?_⟩
      have hkb : k ≠ b := fun q => hn (by simp [q, Value.ownBlock])
      rw [Sort.heap_grow_old _ _ (by simpa [Sort.ahead] using hk)]
      simp [Sort.putRow, Sort.mapBlock, Array.getElem?_modify, Ne.symm hkb, Sort.ahead]
    · refine .inr ⟨b, o, cap, Sort.putCells (Value.int .i64) o (srt xs).toArray cur, by rw [Is_len, srt_length], ?_, by rw [Is_len, srt_length]; omega, h2, by simp [Sort.putCells]; omega, ?_⟩
      · subst hw
        rw [Sort.heap_grow_old _ _ (by simpa [Sort.ahead] using lt_of_heap hb)]
        simp [Sort.putRow, Sort.mapBlock, Array.getElem?_modify, hb, Sort.ahead, Sort.onCells, srt]
      · apply List.ext_getElem?
        intro j
        rw [List.getElem?_take, List.getElem?_drop]
        by_cases hj : j < xs.length
        · have hj2 : o + j < cur.size := by omega
          have hj3 : j < (srt xs).length := by rw [srt_length]; exact hj
          rw [Is_len, srt_length, if_pos hj]
          simp [Sort.putCells, hj, hj2, hj3, srt_length]
        · rw [Is_len, srt_length, if_neg hj]
          symm
          rw [List.getElem?_eq_none]
          rw [Is_len, srt_length]; omega
end Go.Art
set_option linter.unusedSimpArgs false
set_option linter.unusedVariables false
namespace Go.Art
open Go Go.Proofs Go.RowKit
open Go.ChangeMaps (setBlock)

def lmp (b : Nat) (f : Int → Option Value) : Ch where
  wr := fun _ => False
  rd := fun _ => False
  bd := fun x => x = b
  P := fun w => MapF w b f
  loc := fun {w w'} h hb => by obtain ⟨es, c, h1, h2⟩ := h.ex; exact ⟨es, c, (hb b (.inr (.inr rfl))).trans h1, h2⟩
  lt := fun h hb => by rcases hb with hb | hb | rfl; exact hb.elim; exact hb.elim; exact h.lt
def lme (b : Nat) (es : Array MapEntry) (c : Nat) : Ch where
  wr := fun _ => False
  rd := fun _ => False
  bd := fun x => x = b
  P := fun w => w.heap[b]? = some (.map es c)
  loc := fun h hb => (hb b (.inr (.inr rfl))).trans h
  lt := fun h hb => by rcases hb with hb | hb | rfl; exact hb.elim; exact hb.elim; exact lt_of_heap h
def mit (r b since : Nat) (seen : Array Nat) (c : Nat) : Ch where
  wr := fun x => x = r
  rd := fun _ => False
  bd := fun _ => False
  P := fun w => w.heap[r]? = some (.mapIter (some b) since seen c)
  loc := fun h hb => (hb r (.inl rfl)).trans h
  lt := fun h hb => by rcases hb with rfl | hb | hb; exact lt_of_heap h; exact hb.elim; exact hb.elim
instance (b : Nat) (f : Int → Option Value) : Lent (lmp b f) := ⟨fun _ => ⟨fun h => h, fun h => h⟩⟩
instance (b : Nat) (es : Array MapEntry) (c : Nat) : Lent (lme b es c) := ⟨fun _ => ⟨fun h => h, fun h => h⟩⟩
instance (r b since : Nat) (seen : Array Nat) (c : Nat) : NoB (mit r b since seen c) := ⟨fun _ h => h⟩
theorem has_lent {F : List Ch} {c : Ch} (h : c ∈ F) (hl : ∀ b, ¬ c.wr b ∧ ¬ c.rd b) : Has F c := ⟨fun _ hw => hw.h _ h, fun b => (hl b).1, fun b => (hl b).2, fun _ hb => ⟨_, h, hb⟩⟩

theorem Fit.app (L J : List Ch) : Fit (L ++ J) J L := Im.perm List.perm_append_comm
theorem Fit.comm (L J : List Ch) : Fit (J ++ L) (L ++ J) [] := by unfold Fit; rw [List.append_nil]; exact Im.perm List.perm_append_comm
structure SeqC (P : Program) (f : FuncId) (cap : Array Value) (pre : List Ch) (N : Nat) (Done : List Int → Prop) : Prop where
  run : ∀ {α : Type} (l : Nat) (J : α → List Ch) (el : α → List Int) (a0 : α), el a0 = [] → (∀ a, ∀ c ∈ J a, ∀ b, ¬ c.bd b) →
    (∀ a x, (el a).length < N → Ty P l [I x] [] (J a) fun ok B => ok = true ∧ ∃ a', el a' = el a ++ [x] ∧ B = J a') →
    Tr P f (yv l :: cap.toList) pre (J a0) fun _ B => ∃ a, Done (el a) ∧ B = J a
  done : ∀ zs, Done zs → zs.length ≤ N
  lent : ∀ c ∈ pre, ∀ b, ¬ c.wr b ∧ ¬ c.rd b

section
variable {P : Program} {E : Env P} {n : Sh} {X : Cx} {s : List K} {fr : Fr} {A A' B F : List Ch} {ops : Array Oper} {rest : List Oper} {d : Nat} {ty : TypeId} {pos : String} {after : Array Edge} {v z : Value} {t T : TypeId} {x y : Operand} {c0 : Code}
  {b r since : Nat} {f : Int → Option Value} {kt et : TypeId} {es : Array MapEntry} {clock : Nat} {seen : Array Nat}
end
attribute [local irreducible] Fit pt own ro vw mpc lpt vels rels mow lrc dfr
attribute [local irreducible] lmp lme mit

theorem AppendSeq_tr {f : FuncId} {cap : Array Value} {pre : List Ch} {N : Nat} {Done : List Int → Prop} (h : SeqC Tryz.prog f cap pre N Done) (hN : N ≤ 17592186044416) :
    Tr Tryz.prog 157 [nS, .func (.func f) #[] cap] pre [] fun v D => ∃ zs, Done zs ∧ D = [own 3 v (Is zs)] := by
  refine Tr.enterM env _ Tryz.func157 (by kernel_rfl) rfl Tryz.ntmps157 rfl h.lent fun w0 => ?_
  refine TC.im (own_nil 3 _) ?_
  repeat' first|refine bx1 fun b => ?_|(refine wo ?_; first|refine oa ?_)|refine sq ?_|refine rg ?_|refine xc ?_|refine nl ?_|refine bk ?_
  refine TC.range pre [pt b [nS] 22, own 3 nS (Is [])] (fun l rec Dm pend B' => pend = none ∧ ∃ v zs, Done zs ∧ B' = [dfr Dm, pt b [v] 22, own 3 v (Is zs)]) ?_ ?_ (hp := fun c hc => has_lent (by simp [hc]) (h.lent c hc))
  · intro rec l Dm hr
    refine (h.run (α := Value × List Int) l (fun a => [lrc l rec .ready none, dfr Dm, pt b [a.1] 22, own 3 a.1 (Is a.2)]) (·.2) (nS, []) rfl (fun a => by (repeat (first | exact nb0 | refine nb1 ?_)); first | done | fail) ?_).mono ?_
    · rintro ⟨v, zs⟩ x hx
      dsimp only at hx ⊢
      refine Ty.intro env hr has00 fun w1 => ?_
      refine TC.one (v := v) (xs := Is zs) fun hv => ?_
      repeat' first|refine xbeg ?_|refine slii [x] fun v1 => ?_|(refine wo ?_; first|refine oa ?_|refine ld ?_)|refine rg ?_|refine nl ?_|refine bk ?_
      refine api (v := v) (l := zs) (news := [x]) fun v2 => ?_
      refine TO.one (v := v2) (xs := Is (zs ++ [x])) fun hv2 => ?_
      repeat' first|(refine wo ?_; first|refine sr ?_)|refine nl ?_|refine xb ?_
      exact yn ⟨rfl, (v2, zs ++ [x]), rfl, rfl⟩
    · rintro v B ⟨⟨v, zs⟩, hD, rfl⟩
      exact ⟨.ready, none, _, rfl, by decide, rfl, v, zs, hD, rfl⟩
  · rintro l rec Dm pend B' ⟨rfl, v, zs, hD, rfl⟩
    show TX env _ _ _ _ _ _
    repeat' first|(refine wo ?_; first|refine oa ?_|refine ld ?_)|refine sq ?_|refine rg ?_|refine xc ?_|refine nl ?_|refine rt ?_|refine xb ?_
    exact m1 ⟨zs, hD, rfl⟩
theorem Sorted_tr {f : FuncId} {cap : Array Value} {pre : List Ch} {N : Nat} {Done : List Int → Prop} (h : SeqC Tryz.prog f cap pre N Done) (hN : N ≤ 17592186044416) :
    Tr Tryz.prog 99 [.func (.func f) #[] cap] pre [] fun v D => ∃ zs, Done zs ∧ D = [own 3 v (Is (srt zs))] := by
  have hC : Tr Tryz.prog 135 [.func (.func f) #[] cap] pre [] fun v D => ∃ zs, Done zs ∧ D = [own 3 v (Is zs)] := by
    refine Tr.enter env _ Tryz.func135 (by kernel_rfl) rfl Tryz.ntmps135 rfl h.lent fun w0 => ?_
    repeat' first|(refine wo ?_; first|refine oa ?_)|refine sq ?_|refine rg ?_|refine xc ?_|refine nl ?_
    refine ca (AppendSeq_tr h hN) ?_ (hs := Fit.nil) (hp := fun c hc => has_lent (by simp [hc]) (h.lent c hc))
    rintro v _ ⟨zs, hD, rfl⟩
    repeat' first|(refine wo ?_; first|refine oa ?_)|refine xc ?_|refine nl ?_|refine rt ?_
    exact r1 ⟨zs, hD, rfl⟩
  refine Tr.enter env _ Tryz.func99 (by kernel_rfl) rfl Tryz.ntmps99 rfl h.lent fun w0 => ?_
  repeat' first|(refine wo ?_; first|refine oa ?_)|refine sq ?_|refine rg ?_|refine xc ?_|refine nl ?_
  refine ca hC ?_ (hs := Fit.nil) (hp := fun c hc => has_lent (by simp [hc]) (h.lent c hc))
  rintro v _ ⟨zs, hD, rfl⟩
  have hl := h.done zs hD
  repeat' first|(refine wo ?_; first|refine oa ?_)|refine sq ?_|refine rg ?_|refine xc ?_|refine nl ?_
  refine ca (Sort_tr v zs (by omega)) ?_
  rintro _ _ ⟨rfl, rfl⟩
  repeat' first|(refine wo ?_; first|refine oa ?_)|refine sq ?_|refine rg ?_|refine xc ?_|refine nl ?_|refine rt ?_
  exact r1 ⟨zs, hD, rfl⟩
end Go.Art
set_option linter.unusedSimpArgs false
set_option linter.unusedVariables false
namespace Go.Art
open Go Go.Proofs Go.RowKit

abbrev c64 (n : Int) : BitVec 64 := BitVec.ofInt 64 n
abbrev bshr (p : BitVec 64) (k : Int) : BitVec 64 := p >>> k.toNat
def gold : BitVec 64 := c64 11400714819323198485
def stir1 (z : BitVec 64) : BitVec 64 := (z ^^^ bshr z 30) * c64 13787848793156543929
def stir2 (z : BitVec 64) : BitVec 64 := (z ^^^ bshr z 27) * c64 10723151780598845931
def stir3 (z : BitVec 64) : BitVec 64 := z ^^^ bshr z 31
def stir (x : BitVec 64) : BitVec 64 := stir3 (stir2 (stir1 (x + gold)))

def lim (n : Nat) : Nat := 18446744073709551615 - 18446744073709551616 % n
def ginv : BitVec 64 := c64 17428512612931826493
theorem gold_ginv : gold * ginv = 1#64 := by decide +kernel
theorem stir_neg : stir (-gold) = 0#64 := by decide +kernel
def farG (g gi st : BitVec 64) : Nat := ((-g - st) * gi).toNat
theorem farG_step (g gi st : BitVec 64) (hg : g * gi = 1#64) (h : farG g gi st ≠ 0) : farG g gi (st + g) < farG g gi st := by
  have e1 : -g - (st + g) = (-g - st) + -g := by
    simp only [BitVec.sub_eq_add_neg, BitVec.neg_add]
    rw [BitVec.add_assoc]
  have e : (-g - (st + g)) * gi = (-g - st) * gi - 1#64 := by
    rw [e1, BitVec.add_mul, BitVec.neg_mul, hg]
    exact (BitVec.sub_eq_add_neg _ _).symm
  unfold farG at *
  rw [e, BitVec.toNat_sub]
  have := ((-g - st) * gi).isLt
  have h1 : (1#64).toNat = 1 := rfl
  omega
theorem farG_zero (g gi st : BitVec 64) (hg : g * gi = 1#64) (h : farG g gi st = 0) : st = -g := by
  unfold farG at h
  have h0 : (-g - st) * gi = 0#64 := BitVec.eq_of_toNat_eq (by simpa using h)
  have h1 : (-g - st) * gi * g = 0#64 * g := by rw [h0]
  rw [BitVec.mul_assoc, BitVec.mul_comm gi g, hg, BitVec.mul_one, BitVec.zero_mul] at h1
  have h2 : -g - st + st = 0#64 + st := by rw [h1]
  rw [BitVec.sub_add_cancel, BitVec.zero_add] at h2
  exact h2.symm
def far (st : BitVec 64) : Nat := farG gold ginv st
theorem far_step (st : BitVec 64) (h : far st ≠ 0) : far (st + gold) < far st := farG_step gold ginv st gold_ginv h
theorem far_zero (st : BitVec 64) (h : far st = 0) : st = -gold := farG_zero gold ginv st gold_ginv h
theorem far_stop (st : BitVec 64) (n : Nat) (h : ¬ (stir st).toNat ≤ lim n) : far st ≠ 0 := fun e => by
  rw [far_zero st e, stir_neg] at h
  exact h (Nat.zero_le _)

theorem c64_toNat {n : Int} (h : 0 ≤ n ∧ n < 18446744073709551616) : (c64 n).toNat = n.toNat := by rw [BitVec.toNat_ofInt]; omega
theorem c64_ne {n : Int} (h : 1 ≤ n ∧ n < 18446744073709551616) : c64 n ≠ 0#64 := fun e => by
  have := congrArg BitVec.toNat e
  rw [c64_toNat (by omega)] at this
  have h0 : (0#64).toNat = 0 := rfl
  omega

theorem over_toNat {n : Int} (h : 1 ≤ n ∧ n ≤ 1099511627776) : (-(c64 n) % c64 n).toNat = 18446744073709551616 % n.toNat := by
  rw [BitVec.toNat_umod, BitVec.toNat_neg, c64_toNat (by omega)]
  have h1 : (2 ^ 64 - n.toNat) % 2 ^ 64 = 18446744073709551616 - n.toNat := by omega
  rw [h1]
  have h2 : 18446744073709551616 = (18446744073709551616 - n.toNat) + n.toNat := by omega
  conv => rhs; rw [h2, Nat.add_mod_right]
theorem lim_toNat {n : Int} (h : 1 ≤ n ∧ n ≤ 1099511627776) : (c64 18446744073709551615 - (-(c64 n) % c64 n)).toNat = lim n.toNat := by
  have h1 := over_toNat h
  have h2 := Nat.mod_lt 18446744073709551616 (show 0 < n.toNat by omega)
  rw [BitVec.toNat_sub, h1, c64_toNat (by omega)]
  unfold lim
  omega


def saccN (n : Nat) : Nat → BitVec 64 → BitVec 64
  | 0, st => st
  | f + 1, st => if (stir st).toNat ≤ lim n then st else saccN n f (st + gold)
theorem saccN_yes {n f : Nat} {st : BitVec 64} (h : (stir st).toNat ≤ lim n) : saccN n (f + 1) st = st := by unfold saccN; exact if_pos h
theorem saccN_no {n f : Nat} {st : BitVec 64} (h : ¬ (stir st).toNat ≤ lim n) : saccN n (f + 1) st = saccN n f (st + gold) := by
  show (if (stir st).toNat ≤ lim n then st else saccN n f (st + gold)) = saccN n f (st + gold)
  exact if_neg h
theorem saccN_more (n : Nat) (f : Nat) : ∀ (g : Nat) (st : BitVec 64), far st < f → far st < g → saccN n f st = saccN n g st := by
  induction f with
  | zero => intro g st h; exact absurd h (Nat.not_lt_zero _)
  | succ f ih =>
    intro g st h1 h2
    cases g with
    | zero => exact absurd h2 (Nat.not_lt_zero _)
    | succ g =>
      by_cases h : (stir st).toNat ≤ lim n
      · rw [saccN_yes h, saccN_yes h]
      · rw [saccN_no h, saccN_no h]
        have := far_step st (far_stop st n h)
        exact ih g _ (by omega) (by omega)
def sacc (n : Nat) (st : BitVec 64) : BitVec 64 := saccN n (far st + 1) st
theorem sacc_yes {n : Nat} {st : BitVec 64} (h : (stir st).toNat ≤ lim n) : sacc n st = st := saccN_yes h
theorem sacc_no {n : Nat} {st : BitVec 64} (h : ¬ (stir st).toNat ≤ lim n) : sacc n st = sacc n (st + gold) := by
  have := far_step st (far_stop st n h)
  unfold sacc
  rw [saccN_no h]
  exact saccN_more n _ _ _ (by omega) (by omega)
def sdraw (n : Nat) (st : BitVec 64) : Nat × BitVec 64 := ((stir (sacc n st)).toNat % n, sacc n st + gold)
theorem sdraw_lt {n : Nat} (h : 0 < n) (st : BitVec 64) : (sdraw n st).1 < n := Nat.mod_lt _ h
def seedOf (seed block id : BitVec 64) : BitVec 64 := stir (stir (stir seed + block) + id)

section
variable {P : Program} {E : Env P} {n : Sh} {X : Cx} {s : List K} {fr : Fr} {A A' G : List Ch} {ops : Array Oper} {rest : List Oper} {d : Nat} {ty t t' : TypeId} {pos : String} {after : Array Edge} {x y : Operand} {p q : BitVec 64}
theorem uad (k : TO E n X s ops rest ((d, U (p + q)) :: fr) A) (hx : ev fr x = some (U p) := by first | rfl | exact evU_const (by decide)) (hy : ev fr y = some (U q) := by first | rfl | exact evU_const (by decide)) (hd : Nat.blt d n.n = true := by rfl) :
    TO E n X s ops (⟨some d, .binOp .add t x y t', ty, pos, after, none⟩ :: rest) fr A := TO.val (fun _ _ => R_uadd hx hy) k hd
theorem usb (k : TO E n X s ops rest ((d, U (p - q)) :: fr) A) (hx : ev fr x = some (U p) := by first | rfl | exact evU_const (by decide)) (hy : ev fr y = some (U q) := by first | rfl | exact evU_const (by decide)) (hd : Nat.blt d n.n = true := by rfl) :
    TO E n X s ops (⟨some d, .binOp .sub t x y t', ty, pos, after, none⟩ :: rest) fr A := TO.val (fun _ _ => R_usub hx hy) k hd
theorem uml (k : TO E n X s ops rest ((d, U (p * q)) :: fr) A) (hx : ev fr x = some (U p) := by first | rfl | exact evU_const (by decide)) (hy : ev fr y = some (U q) := by first | rfl | exact evU_const (by decide)) (hd : Nat.blt d n.n = true := by rfl) :
    TO E n X s ops (⟨some d, .binOp .mul t x y t', ty, pos, after, none⟩ :: rest) fr A := TO.val (fun _ _ => R_umul hx hy) k hd
theorem uxr (k : TO E n X s ops rest ((d, U (p ^^^ q)) :: fr) A) (hx : ev fr x = some (U p) := by first | rfl | exact evU_const (by decide)) (hy : ev fr y = some (U q) := by first | rfl | exact evU_const (by decide)) (hd : Nat.blt d n.n = true := by rfl) :
    TO E n X s ops (⟨some d, .binOp .xor t x y t', ty, pos, after, none⟩ :: rest) fr A := TO.val (fun _ _ => R_uxor hx hy) k hd
theorem urm (k : TO E n X s ops rest ((d, U (p % q)) :: fr) A) (h : q ≠ 0#64 := by assumption) (hx : ev fr x = some (U p) := by first | rfl | exact evU_const (by decide)) (hy : ev fr y = some (U q) := by first | rfl | exact evU_const (by decide)) (hd : Nat.blt d n.n = true := by rfl) :
    TO E n X s ops (⟨some d, .binOp .rem t x y t', ty, pos, after, none⟩ :: rest) fr A := TO.val (fun _ _ => R_urem hx hy h) k hd
theorem ulq (k : TO E n X s ops rest ((d, .bool (decide (p.toNat ≤ q.toNat))) :: fr) A) (hx : ev fr x = some (U p) := by first | rfl | exact evU_const (by decide)) (hy : ev fr y = some (U q) := by first | rfl | exact evU_const (by decide)) (hd : Nat.blt d n.n = true := by rfl) :
    TO E n X s ops (⟨some d, .binOp .leq t x y t', ty, pos, after, none⟩ :: rest) fr A := TO.val (fun _ _ => R_uleq hx hy) k hd
theorem ush {k' : IntKind} {z : Int} (k : TO E n X s ops rest ((d, U (p >>> z.toNat)) :: fr) A) (hx : ev fr x = some (U p) := by rfl) (hy : ev fr y = some (.int k' z) := by rfl) (hz : 0 ≤ z ∧ z ≤ 64 := by omega) (hd : Nat.blt d n.n = true := by rfl) :
    TO E n X s ops (⟨some d, .binOp .shr t x y t', ty, pos, after, none⟩ :: rest) fr A := TO.val (fun _ _ => R_ushr hx hy hz) k hd
theorem ung (k : TO E n X s ops rest ((d, U (-p)) :: fr) A) (hx : ev fr x = some (U p) := by rfl) (hd : Nat.blt d n.n = true := by rfl) : TO E n X s ops (⟨some d, .unOp .neg t x, ty, pos, after, none⟩ :: rest) fr A := TO.val (fun _ _ => R_uneg hx) k hd
theorem uto {m : Int} (k : TO E n X s ops rest ((d, U (c64 m)) :: fr) A) (hx : ev fr x = some (I m) := by rfl) (ht : lk E.und t' = some (.int .u64) := by rfl) (hs : (lk E.und t).isSome = true := by rfl) (hd : Nat.blt d n.n = true := by rfl) : TO E n X s ops (⟨some d, .convert t t' x, ty, pos, after, none⟩ :: rest) fr A := TO.val (fun _ _ => R_toU ht hs hx) k hd
theorem ife {ms : Array (String × TypeId)} {tt : TypeId} {v : Value} (k : TO E n X s ops rest ((d, .bool false) :: fr) A) (hx : ev fr x = some (.iface tt v) := by rfl) (ht : lk E.und t = some (.interface ms) := by rfl) (hd : Nat.blt d n.n = true := by rfl) :
    TO E n X s ops (⟨some d, .binOp .eql t x (.const .nilIface) t', ty, pos, after, none⟩ :: rest) fr A := TO.val (fun _ _ => R_ifEqNil ht hx) k hd
theorem onep_nil : ∀ p ∈ ([] : List (Nat × Value)), p.2.oneCell' = true := fun _ h => nomatch h
theorem onep_cons {p0 : Nat × Value} {l : List (Nat × Value)} (h : p0.2.oneCell' = true) (k : ∀ p ∈ l, p.2.oneCell' = true) : ∀ p ∈ p0 :: l, p.2.oneCell' = true := fun x hx => by
  rcases List.mem_cons.1 hx with rfl | hx
  · exact h
  · exact k x hx
theorem bdz {sz by_ : Nat} {cs : List Value} {fl : List Field} {zs : List Value} {pl : List (Nat × Nat)} {parts : List (Nat × Operand)} {ps : List (Nat × Value)} (k : TO E n X s ops rest ((d, .agg cs.toArray) :: fr) A) (hv : evps fr parts = some ps := by rfl)
    (h1 : ∀ p ∈ ps, p.2.oneCell' = true := by (repeat (first | exact onep_nil | refine onep_cons (by first | rfl | assumption) ?_)); first | done | fail) (ht : lk E.und t = some (.struct fl.toArray) := by rfl) (he : lk E.inf t = some (.agg zs.toArray, sz, by_) := by rfl)
    (hpl : places E.inf fl = some pl := by rfl) (hs : setParts1 pl zs ps = some cs := by rfl) (hd : Nat.blt d n.n = true := by rfl) : TO E n X s ops (⟨some d, .build t parts.toArray, ty, pos, after, none⟩ :: rest) fr A := bdc h1 k hv ht he hpl hs hd
theorem civ {f : FuncId} {r : Operand} {nm : String} {args : List Operand} {ats : Array TypeId} {vs : List Value} {pre B F : List Ch} {R : Value → List Ch → Prop} {tt : TypeId} {x0 rv : Value} (hf : Tr P f (rv :: vs) pre B R) (k : ∀ v D, R v D → TO E n X s ops rest ((d, v) :: fr) (D ++ F))
    (hm : ∀ w : World, (method (P.types.size + Made.depth) tt x0 nm).run P w = .ok (f, rv) w) (hr : ev fr r = some (.iface tt x0) := by rfl) (hv : evs fr args = some vs := by rfl) (hs : Fit A B F := by first | apply Fit.all | ((repeat (first | (apply Fit.nilN; (repeat (first | apply nrm_nil | apply nrm_cons)); try apply nrm_rfl) | (apply Fit.cons; focus ((repeat (first | apply Tk.here | apply Tk.there)); first | done | fail)))); first | done | fail))
    (hp : ∀ c ∈ pre, Has F c := by (repeat (first | exact has0 | refine has1 (by first | (apply has_vw; (repeat (first | apply List.Mem.head | apply List.Mem.tail)); first | done | fail) | (apply has_own; (repeat (first | apply List.Mem.head | apply List.Mem.tail)); first | done | fail) | (apply has_ro; (repeat (first | apply List.Mem.head | apply List.Mem.tail)); first | done | fail) | apply has_nil | ((with_reducible apply has_el); (focus (first | (apply has_vels; (repeat (first | apply List.Mem.head | apply List.Mem.tail)); first | done | fail) | (apply has_rels; (repeat (first | apply List.Mem.head | apply List.Mem.tail)); first | done | fail))); omega) | (apply has_pt; (repeat (first | apply List.Mem.head | apply List.Mem.tail)); first | done | fail) | (apply has_lpt; (repeat (first | apply List.Mem.head | apply List.Mem.tail)); first | done | fail) | (apply has_vels; (repeat (first | apply List.Mem.head | apply List.Mem.tail)); first | done | fail) | (apply has_rels; (repeat (first | apply List.Mem.head | apply List.Mem.tail)); first | done | fail) | with_reducible assumption | ((with_reducible apply has_elg); (focus (first | (apply has_velg; (repeat (first | apply List.Mem.head | apply List.Mem.tail)); first | done | fail) | (apply has_relg; (repeat (first | apply List.Mem.head | apply List.Mem.tail)); first | done | fail))); omega) | (apply has_velg; (repeat (first | apply List.Mem.head | apply List.Mem.tail)); first | done | fail) | (apply has_relg; (repeat (first | apply List.Mem.head | apply List.Mem.tail)); first | done | fail) | (apply has_vwf; (repeat (first | apply List.Mem.head | apply List.Mem.tail)); first | done | fail)) ?_)); first | done | fail) (hd : Nat.blt d n.n = true := by rfl) : TO E n X s ops (⟨some d, .call ⟨.invoke r nm, args.toArray, ats⟩, ty, pos, after, none⟩ :: rest) fr A :=
  ⟨fun w hw => SO_invoke hr hv (hm w) hd (hf.at hs hp hw) fun v w' ⟨D, hR, hS⟩ => (k v D hR).run w' hS⟩
theorem mct {w0 : World} {A0 D : List Ch} {cl : List Value} {T ct : TypeId} {dt : TypeDesc} {R' : Value → List Ch → Prop} {fn : Func} {t1 t2 nn Dm b : Nat} {v1 v2 : Value} (h : R' (.tuple #[v1, v2]) D) (hr : fn.results = #[.cell t1 ct, .tmp t2] := by rfl) (ht : lk E.und ct = some dt := by rfl) (hg : aggB dt = false := by rfl)
    (hv : get fr t1 = some (ptr b) := by rfl) (hv2 : get fr t2 = some v2 := by rfl) (hm : Tk (dfr Dm) A A' := by (repeat (first | apply Tk.here | apply Tk.there)); first | done | fail) (hc : pt b (v1 :: cl) T ∈ A' := by (repeat (first | apply List.Mem.head | apply List.Mem.tail)); first | done | fail) (hf : Fit A' D G := by first | apply Fit.all | ((repeat (first | (apply Fit.nilN; (repeat (first | apply nrm_nil | apply nrm_cons)); try apply nrm_rfl) | (apply Fit.cons; focus ((repeat (first | apply Tk.here | apply Tk.there)); first | done | fail)))); first | done | fail)) (nb : ∀ c ∈ D, ∀ b, ¬ c.bd b := by (repeat (first | exact nb0 | refine nb1 ?_)); first | done | fail) :
    TX E ⟨nn, [mark Dm], none⟩ ⟨bodyPostM (FF none) 0 P fn (RetP (PR w0 A0 R')), w0, A0⟩ [] .ret fr A := ⟨fun w hw =>
  SX_retM rfl ((hw.im hm).mem (List.Mem.head _)) fun a ha w' hU => ⟨.tuple #[v1, v2], res_ct (E := E) ha hr ht hg hv (by
    have h1 := hw.im hm
    have h2 : St ⟨bodyPostM (FF none) 0 P fn (RetP (PR w0 A0 R')), w0, A0⟩ A' w' := h1.step (A := [dfr Dm]) (B := []) (F := A') (Mv.upd hU (fun b hb => .inl (wrs_one.2 (List.mem_singleton.1 hb))) (fun b hb => absurd hb wrs_nil) (fun b hb => absurd hb rds_nil)) (Sat.nil _) (by simp)
    exact blk_cell (h2.mem hc) rfl) hv2, PR.mkM h hw hm hf nb hU⟩⟩
end
theorem fit_mid (B : List Ch) (a l : Ch) : Fit (B ++ [a, l]) (B ++ [a]) [l] := by
  refine Im.perm ?_
  rw [show B ++ [a, l] = (B ++ [a]) ++ [l] by simp]
attribute [local irreducible] Fit pt own ro vw mpc lpt vels rels mow lrc dfr

abbrev TLo : TypeId := 95
theorem Stir_tr (x : BitVec 64) : Tr Tryz.prog 69 [U x] [] [] fun v D => v = U (stir x) ∧ D = [] := by
  refine Tr.enter env _ Tryz.func69 (by kernel_rfl) rfl Tryz.ntmps69 rfl (by repeat (first | exact has00 | refine has01 ?_)) fun w0 => ?_
  repeat' first|refine uad ?_|refine uml ?_|refine uxr ?_|refine ush ?_|(refine wo ?_; first|refine oa ?_)|refine sq ?_|refine rg ?_|refine xc ?_|refine nl ?_|refine rt ?_
  exact r1 ⟨rfl, rfl⟩
abbrev TSd : TypeId := 105
abbrev TpS : TypeId := 102
abbrev lotP (b r : Nat) (st : BitVec 64) (used : Int) (br : Bool) : List Ch := [pt b [.iface TpS (ptr r), I used, .bool br] TLo, pt r [U st] TSd]
theorem words_tr (r : Nat) : Tr Tryz.prog 215 [ptr r] [] [] fun v D => ∃ c, v = .func (.func 216) #[] #[ptr c] ∧ D = [pt c [ptr r] TpS] := by
  refine Tr.enter env _ Tryz.func215 (by kernel_rfl) rfl Tryz.ntmps215 rfl (by repeat (first | exact has00 | refine has01 ?_)) fun w0 => ?_
  repeat' first|refine bx1 fun c => ?_|(refine wo ?_; first|refine oa ?_)|refine sq ?_|refine rg ?_|refine xc ?_|refine nl ?_|refine rt ?_
  exact r1 ⟨c, rfl, rfl⟩
theorem words1_tr (c r l m : Nat) (st : BitVec 64) (J : List Ch) (R : BitVec 64 → List Ch → Prop)
    (hy : ∀ w, ¬ w.toNat ≤ lim m → Ty Tryz.prog l [U w] [] J fun ok B => ok = true ∧ B = J) (hz : ∀ w, w.toNat ≤ lim m → Ty Tryz.prog l [U w] [] J fun ok B => ok = false ∧ R w B ∧ ∀ c ∈ B, ∀ b, ¬ c.bd b) :
    Tr Tryz.prog 216 [yv l, ptr c] [lpt c [ptr r] TpS] (J ++ [pt r [U st] TSd]) fun _ B => ∃ B', R (stir (sacc m st)) B' ∧ B = B' ++ [pt r [U (sacc m st + gold)] TSd] := by
  refine Tr.enter env _ Tryz.func216 (by kernel_rfl) rfl Tryz.ntmps216 rfl (by repeat (first | exact has00 | refine has01 ?_)) fun w0 => ?_
  refine TC.im (B := pt r [U st] TSd :: lpt c [ptr r] TpS :: J) (Im.perm (show (lpt c [ptr r] TpS :: (J ++ [pt r [U st] TSd])).Perm (pt r [U st] TSd :: lpt c [ptr r] TpS :: J) from (List.Perm.cons _ (List.perm_append_comm (l₁ := J) (l₂ := [pt r [U st] TSd]))).trans (List.Perm.swap _ _ _))) ?_
  repeat' first|refine bk ?_
  refine TC.loop (ι := BitVec 64) (fun _ => []) (fun s => pt r [U s] TSd :: lpt c [ptr r] TpS :: J) (fun s => sacc m s = sacc m st) far st [0, 1] rfl ?_ (hf := Fit.all)
  rintro s hs
  have hN : (pt r [U s] TSd :: lpt c [ptr r] TpS :: J) ++ [] = pt r [U s] TSd :: lpt c [ptr r] TpS :: J := List.append_nil _
  refine TC.im (B := pt r [U s] TSd :: lpt c [ptr r] TpS :: J) (Im.perm (by rw [hN])) ?_
  have hF : ∀ s, Fit (pt r [U s] TSd :: lpt c [ptr r] TpS :: J) J [pt r [U s] TSd, lpt c [ptr r] TpS] := fun s => Fit.app [pt r [U s] TSd, lpt c [ptr r] TpS] J
  repeat' first|(refine gca ?_; first|(refine ca (Stir_tr _) ?_; rintro _ _ ⟨rfl, rfl⟩))|refine uad ?_|(refine wo ?_; first|refine oa ?_|refine ld ?_|refine ldl ?_|refine sr ?_)|refine sq ?_|refine rg ?_|refine xc ?_|refine nl ?_|refine bk ?_
  refine TO.im (B := pt r [U (s + gold)] TSd :: lpt c [ptr r] TpS :: J) (Im.refl _) ?_
  by_cases hw : (stir s).toNat ≤ lim m
  · refine cy (hz (stir s) hw) ?_ (hs := hF _)
    rintro ok B ⟨rfl, hR, hnb⟩
    repeat' first|(refine wo ?_; first|refine oa ?_)|(refine gc ?_; first|refine ct ?_)|refine xc ?_|refine nl ?_|refine rt ?_
    rw [sacc_yes hw] at hs
    refine r0 (D := B ++ [pt r [U (s + gold)] TSd]) (G := [lpt c [ptr r] TpS]) ⟨B, by rw [← hs]; exact hR, by rw [← hs]⟩ (hf := ?_) (nb := ?_)
    · exact fit_mid B _ _
    · intro x hx b hb
      rcases List.mem_append.1 hx with hx | hx
      · exact hnb x hx b hb
      · rw [List.mem_singleton.1 hx] at hb; exact (NoB.nb (c := pt r [U (s + gold)] TSd)) b hb
  · refine cy (hy (stir s) hw) ?_ (hs := hF _)
    rintro ok B ⟨rfl, rfl⟩
    repeat' first|(refine wo ?_; first|refine oa ?_)|(refine gc ?_; first|refine cf ?_)|refine xc ?_|refine nl ?_|refine sk ?_|refine xb ?_
    rw [sacc_no hw] at hs
    refine lp (s + gold) hs (G := []) (hf := ?_) (hlt := far_step s (far_stop s m hw))
    rw [List.append_nil]
    exact Fit.comm [pt r [U (s + gold)] TSd, lpt c [ptr r] TpS] _
theorem seedDraw_tr (r : Nat) (st : BitVec 64) (n : Int) (hn : 1 ≤ n ∧ n ≤ 1099511627776) : Tr Tryz.prog 214 [ptr r, I n] [] [pt r [U st] TSd]
    fun v D => v = tup2 (I (sdraw n.toNat st).1) (.bool true) ∧ D = [pt r [U (sdraw n.toNat st).2] TSd] := by
  have hnz := c64_ne (n := n) (by omega)
  have hlim := lim_toNat hn
  refine Tr.enterM env _ Tryz.func214 (by kernel_rfl) rfl Tryz.ntmps214 rfl (by repeat (first | exact has00 | refine has01 ?_)) fun w0 => ?_
  repeat' first|(refine gca ?_; first|(refine ca (words_tr r) ?_; rintro _ _ ⟨c, rfl, rfl⟩))|refine uto ?_|refine ung ?_|refine urm ?_|refine bx1 fun bn => ?_|refine al fun bo => ?_|(refine wo ?_; first|refine oa ?_|refine ld ?_|refine sr ?_)|refine sq ?_|refine rg ?_|refine xc ?_|refine nl ?_|refine bk ?_
  rename_i bx
  refine TC.range [lpt c [ptr r] TpS] [pt bo [U (-c64 n % c64 n)] 45, pt bx [I 0] 3, pt bn [I n] 3, pt r [U st] TSd]
    (fun l rec Dm pend B' => pend = some (.exit 0) ∧ B' = [dfr Dm, pt bo [U (-c64 n % c64 n)] 45, pt bx [I (((stir (sacc n.toNat st)).toNat : Int) % n)] 3, pt bn [I n] 3, pt r [U (sdraw n.toNat st).2] TSd]) ?_ ?_
  · intro rec l Dm hr
    refine (words1_tr c r l n.toNat st [lrc l rec .ready none, dfr Dm, pt bo [U (-c64 n % c64 n)] 45, pt bx [I 0] 3, pt bn [I n] 3]
      (fun w B => B = [lrc l rec .done (some (.exit 0)), dfr Dm, pt bo [U (-c64 n % c64 n)] 45, pt bx [I ((w.toNat : Int) % n)] 3, pt bn [I n] 3]) ?_ ?_).mono ?_
    · intro w hw
      have hw' : ¬ w.toNat ≤ (BitVec.ofInt 64 18446744073709551615 - -c64 n % c64 n).toNat := fun h => hw (by have e := hlim; rw [← e]; exact h)
      refine Ty.intro env hr has00 fun w1 => ?_
      repeat' first|refine xbeg ?_|refine usb ?_|refine ulq ?_|(refine wo ?_; first|refine oa ?_|refine ld ?_)|(refine gc ?_; first|(refine ci (fun hB => ?_) (fun hB => ?_) <;> try (exfalso; omega)))|refine sq ?_|refine rg ?_|refine xc ?_|refine nl ?_|refine sk ?_|refine bk ?_|refine xb ?_
      exact yn ⟨rfl, rfl⟩
    · intro w hw
      have hw' : w.toNat ≤ (BitVec.ofInt 64 18446744073709551615 - -c64 n % c64 n).toNat := by have e := hlim; rw [← e] at hw; exact hw
      have hm1 := Int.emod_nonneg (w.toNat : Int) (show n ≠ 0 by omega)
      have hm2 := Int.emod_lt_of_pos (w.toNat : Int) (show 0 < n by omega)
      refine Ty.intro env hr has00 fun w1 => ?_
      repeat' first|refine xbeg ?_|refine usb ?_|refine ulq ?_|(refine wo ?_; first|(refine ao ?_; first|refine umod ?_)|refine acw ?_|refine ucv ?_|refine oa ?_|refine ld ?_|refine sr ?_)|(refine gc ?_; first|(refine ci (fun hB => ?_) (fun hB => ?_) <;> try (exfalso; omega)))|refine sq ?_|refine rg ?_|refine xc ?_|refine nl ?_|refine bk ?_
      refine xo ?_
      refine ye ⟨rfl, rfl, ?_⟩
      (repeat (first | exact nb0 | refine nb1 ?_))
    · rintro v B ⟨B', rfl, rfl⟩
      exact ⟨.done, _, _, rfl, by decide, rfl, rfl⟩
  · rintro l rec Dm pend B' ⟨rfl, rfl⟩
    show TC env _ _ _ _ _ _
    repeat' first|(refine wo ?_; first|refine oa ?_|refine ld ?_|refine sr ?_)|refine sq ?_|refine rg ?_|refine xc ?_|refine nl ?_|refine xe ?_|refine rt ?_
    have hv : ((sdraw n.toNat st).1 : Int) = ((stir (sacc n.toNat st)).toNat : Int) % n := by
      show (((stir (sacc n.toNat st)).toNat % n.toNat : Nat) : Int) = _
      rw [Int.natCast_emod, Int.toNat_of_nonneg (by omega)]
    exact mct (b := bx) (cl := []) (T := 3) ⟨by rw [hv], rfl⟩
def ldraw (n : Int) (st : BitVec 64) (used : Int) : (Int × Int) × (BitVec 64 × Int) := if 1 ≤ n ∧ n ≤ 1099511627776 then ((((sdraw n.toNat st).1 : Int), 0), ((sdraw n.toNat st).2, used + 1)) else ((0, 3), (st, used))
theorem none_tr (b r : Nat) (st : BitVec 64) (used : Int) (br : Bool) : Tr Tryz.prog 71 [ptr b] [lpt b [.iface TpS (ptr r), I used, .bool br] TLo] [] fun v D => v = .bool false ∧ D = [] := by
  refine Tr.enter env _ Tryz.func71 (by kernel_rfl) rfl Tryz.ntmps71 rfl (by repeat (first | exact has00 | refine has01 ?_)) fun w0 => ?_
  repeat' first|refine ife ?_|refine ifn ?_|(refine wo ?_; first|(refine ao ?_; first|refine ipe ?_)|refine oa ?_|refine ldl ?_|refine gy ?_)|refine sq ?_|refine rg ?_|refine xc ?_|refine nl ?_|refine rt ?_
  exact r1 ⟨rfl, rfl⟩
theorem method_seeded (a : Addr) (w : World) : (method (Tryz.prog.types.size + Made.depth) 102 (.pointer (some a)) "artesian/lots.draw").run Tryz.prog w = .ok (214, .pointer (some a)) w := by kernel_rfl
theorem Draw_tr (b r : Nat) (st : BitVec 64) (used n : Int) (hu : 0 ≤ used ∧ used ≤ 4611686018427387904) : Tr Tryz.prog 96 [ptr b, I n] [] (lotP b r st used false)
    fun v D => v = tup2 (I (ldraw n st used).1.1) (I (ldraw n st used).1.2) ∧ D = lotP b r (ldraw n st used).2.1 (ldraw n st used).2.2 false := by
  have hl1 : ¬ (1 ≤ n ∧ n ≤ 1099511627776) → ldraw n st used = ((0, 3), (st, used)) := fun h => if_neg h
  refine Tr.enter env _ Tryz.func96 (by kernel_rfl) rfl Tryz.ntmps96 rfl (by repeat (first | exact has00 | refine has01 ?_)) fun w0 => ?_
  repeat' first|(refine gca ?_; first|(refine ca (none_tr b r st used false) ?_; rintro _ _ ⟨rfl, rfl⟩))|(refine wo ?_; first|(refine ao ?_; first|refine oa ?_)|refine oa ?_|refine ld ?_|refine gy ?_|refine gn ?_|(refine gsi (fun hB => ?_) (fun hB => ?_) <;> try (exfalso; omega)))|(refine gc ?_; first|refine ct ?_|refine cf ?_|(refine ci (fun hB => ?_) (fun hB => ?_) <;> try (exfalso; omega)))|refine sq ?_|refine rg ?_|refine xc ?_|refine nl ?_|refine sk ?_|refine bk ?_|refine rt ?_|refine xb ?_
  · rw [hl1 (by omega)]; exact r2 ⟨rfl, rfl⟩
  · rw [hl1 (by omega)]; exact r2 ⟨rfl, rfl⟩
  have hn : 1 ≤ n ∧ n ≤ 1099511627776 := by omega
  rw [show ldraw n st used = ((((sdraw n.toNat st).1 : Int), 0), ((sdraw n.toNat st).2, used + 1)) from if_pos hn]
  refine civ (seedDraw_tr r st n hn) ?_ (method_seeded _)
  rintro _ _ ⟨rfl, rfl⟩
  repeat' first|(refine wo ?_; first|(refine ao ?_; first|refine aw ?_)|refine oa ?_|refine ld ?_|refine sr ?_)|(refine gc ?_; first|refine cf ?_)|refine sq ?_|refine rg ?_|refine xc ?_|refine nl ?_|refine sk ?_|refine rt ?_
  exact r2 ⟨rfl, rfl⟩
end Go.Art
