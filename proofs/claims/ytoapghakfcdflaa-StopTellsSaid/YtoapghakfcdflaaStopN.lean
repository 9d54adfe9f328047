/- The largest stopping set, as the program tells it: the keys of what is left, sorted. Conditions: none. -/
import Derived.Test.YtoapghakfcdflaaStopK
import Derived.Test.YtoapghakfcdflaaQ
set_option linter.unusedSimpArgs false
set_option linter.unusedVariables false
namespace Go.Art
open Go Go.Proofs Go.RowKit
attribute [local irreducible] Fit pt own ro vw mpc lpt vels rels mow lrc dfr
attribute [local irreducible] lmp lme mit

/-- The keys of what f tells, each once. -/
def KeysOf (f : Int → Option Value) (zs : List Int) : Prop := zs.Nodup ∧ ∀ k, k ∈ zs ↔ (f k).isSome = true
theorem Keys1_seq (c b : Nat) (f : Int → Option Value) (N : Nat) (hN : ∀ zs : List Int, zs.Nodup → (∀ k ∈ zs, (f k).isSome = true) → zs.length ≤ N) :
    SeqC Try.prog 92 #[ptr c] [lpt c [mp b] 97, lmp b f] N (KeysOf f) := by
  refine ⟨?_, fun zs h => hN zs h.1 fun k hk => (h.2 k).1 hk, by (repeat (first | exact has00 | refine has01 ?_)); first | done | fail⟩
  intro α l J el a0 h0 hnb hy
  refine Tr.enter env _ Try.func92 (by kernel_rfl) rfl Try.ntmps92 rfl (by repeat (first | exact has00 | refine has01 ?_)) fun w0 => ?_
  refine TC.entries (b := b) (f := f) (fun es clock hT => ?_)
  have hold : ∀ x ∈ es.toList, x.born < clock := hT.st.1
  have hnd : (es.toList.map (·.born)).Nodup := hT.st.2.1
  repeat' first|refine rgm (b := b) (es := es) (clock := clock) fun r => ?_|(refine wo ?_; first|(refine ao ?_; first|refine aw ?_|refine aw6 ?_|refine oa ?_|refine adiv ?_|refine amod ?_|refine shr1 ?_|refine shr ?_|refine umod ?_|refine isl ?_|refine ipe ?_|refine ipn ?_|refine ibe ?_)|refine acw ?_|refine ucv ?_|refine anw ?_|refine oa ?_|refine ld ?_|refine ldl ?_|refine lnm ?_|refine ixmn ?_|refine ixm ?_|refine li ?_|refine lv ?_|refine ln ?_|refine ixn ?_|refine ix ?_|refine le ?_|refine sr ?_|refine soi ?_|refine scm ?_|refine sclm ?_|refine schm ?_|refine gy ?_|refine gn ?_|refine gnn ?_|refine gu ?_|(refine gsi (fun hB => ?_) (fun hB => ?_) <;> try (exfalso; omega))|(refine gsn (fun hB => ?_) (fun hB => ?_) <;> try (exfalso; omega))|(refine gs (fun hB => ?_) (fun hB => ?_) <;> try (exfalso; omega)))|(refine gc ?_; first|refine ct ?_|refine cf ?_|(refine ci (fun hB => ?_) (fun hB => ?_) <;> try (exfalso; omega))|(refine cn (fun hB => ?_) (fun hB => ?_) <;> try (exfalso; omega))|(refine cb (fun hB => ?_) (fun hB => ?_) <;> try (exfalso; omega)))|refine sq ?_|refine rg ?_|refine xc ?_|refine nl ?_|refine sk ?_|refine bk ?_|refine xe ?_|refine rt ?_|refine xb ?_
  refine TC.loop (ι := α × Array Nat) (fun _ => []) (fun a => mit r b clock a.2 clock :: lme b es clock :: lpt c [mp b] 97 :: J a.1) (fun a => (el a.1).Nodup ∧ ∀ k, k ∈ el a.1 ↔ ∃ e ∈ es.toList, e.key = I k ∧ a.2.contains e.born = true) (fun a => (leftOf es a.2).size) (a0, #[]) [0, 5] ⟨by rw [h0]; exact .nil, by rw [h0]; simp⟩ ?_ (hf := Fit.all)
  rintro ⟨a, seen⟩ ⟨h1, h2⟩
  dsimp only at h1 h2 ⊢
  have hkey : ∀ e ∈ es.toList, ∃ k, e.key = I k := fun e he => by
    have := hT.ks e he
    unfold MapKept.IsKey at this
    split at this
    all_goals (first | (rename_i e1 e2; cases e1; subst this; exact ⟨_, e2⟩) | exact this.elim | (rename_i e1 _; cases e1))
  have hF : ∀ seen, Fit (mit r b clock seen clock :: (lme b es clock :: lpt c [mp b] 97 :: J a)) (J a) [mit r b clock seen clock, lme b es clock, lpt c [mp b] 97] := fun seen => Fit.app [mit r b clock seen clock, lme b es clock, lpt c [mp b] 97] (J a)
  have hN0 : (lme b es clock :: lpt c [mp b] 97 :: J a) ++ [] = lme b es clock :: lpt c [mp b] 97 :: J a := List.append_nil _
  repeat' first|refine nxt (b := b) (es := es) (clock := clock) (fun hz => ?_) (fun e he => ?_) hold (Nat.le_refl _)|(refine wo ?_; first|(refine ao ?_; first|refine aw ?_|refine aw6 ?_|refine oa ?_|refine adiv ?_|refine amod ?_|refine shr1 ?_|refine shr ?_|refine umod ?_|refine isl ?_|refine ipe ?_|refine ipn ?_|refine ibe ?_)|refine acw ?_|refine ucv ?_|refine anw ?_|refine oa ?_|refine ld ?_|refine ldl ?_|refine lnm ?_|refine ixmn ?_|refine ixm ?_|refine li ?_|refine lv ?_|refine ln ?_|refine ixn ?_|refine ix ?_|refine le ?_|refine sr ?_|refine soi ?_|refine scm ?_|refine sclm ?_|refine schm ?_|refine gy ?_|refine gn ?_|refine gnn ?_|refine gu ?_|(refine gsi (fun hB => ?_) (fun hB => ?_) <;> try (exfalso; omega))|(refine gsn (fun hB => ?_) (fun hB => ?_) <;> try (exfalso; omega))|(refine gs (fun hB => ?_) (fun hB => ?_) <;> try (exfalso; omega)))|(refine gc ?_; first|refine ct ?_|refine cf ?_|(refine ci (fun hB => ?_) (fun hB => ?_) <;> try (exfalso; omega))|(refine cn (fun hB => ?_) (fun hB => ?_) <;> try (exfalso; omega))|(refine cb (fun hB => ?_) (fun hB => ?_) <;> try (exfalso; omega)))|refine sq ?_|refine rg ?_|refine xc ?_|refine nl ?_|refine sk ?_|refine bk ?_|refine xe ?_|refine rt ?_|refine xb ?_
  · refine TX.im (B := mit r b clock seen clock :: (lme b es clock :: lpt c [mp b] 97 :: J a)) (by exact Im.perm (by simp)) ?_
    refine e0 (D := J a) ⟨a, ⟨h1, fun k => ?_⟩, rfl⟩ (hf := hF seen) (nb := hnb a)
    rw [h2, Option.isSome_iff_exists]
    constructor
    · rintro ⟨e, he, hk, _⟩; exact ⟨e.val, (hT.to k e.val).2 ⟨e, he, hk, rfl⟩⟩
    · rintro ⟨v, hv⟩; obtain ⟨e, he, hk, _⟩ := (hT.to k v).1 hv; exact ⟨e, he, hk, all_seen es seen hz e he⟩
  · obtain ⟨he1, he2⟩ := mem_left he
    obtain ⟨k, hk⟩ := hkey e he1
    have hka : k ∉ el a := fun hm => by
      obtain ⟨e', h3, h4, h5⟩ := (h2 k).1 hm
      obtain ⟨i1, hi1⟩ := mem_get.1 h3
      obtain ⟨i2, hi2⟩ := mem_get.1 he1
      have := keys_inj hT.st.2.2 hi1 hi2 (by rw [h4, hk])
      subst this; rw [hi1] at hi2; cases hi2; rw [h5] at he2; cases he2
    have hex : ∀ e' ∈ es.toList, ∀ k', e'.key = I k' → (f k').isSome = true := fun e' he' k' hk' => by rw [(hT.to k' e'.val).2 ⟨e', he', hk', rfl⟩]; rfl
    have hNl : (el a).length < N := by
      have := hN (el a ++ [k]) (by rw [List.nodup_append]; exact ⟨h1, by simp, fun x hx y hy e => hka (by rw [List.mem_singleton.1 hy] at e; rw [← e]; exact hx)⟩) (fun k' hk' => by
        rcases List.mem_append.1 hk' with hk' | hk'
        · obtain ⟨e', h3, h4, _⟩ := (h2 k').1 hk'; exact hex e' h3 k' h4
        · rw [List.mem_singleton.1 hk']; exact hex e he1 k hk)
      simp at this; omega
    repeat' first|refine ent (e := e) (b := b) (es := es) (clock := clock) ?_ he1 hnd|(refine wo ?_; first|(refine ao ?_; first|refine aw ?_|refine aw6 ?_|refine oa ?_|refine adiv ?_|refine amod ?_|refine shr1 ?_|refine shr ?_|refine umod ?_|refine isl ?_|refine ipe ?_|refine ipn ?_|refine ibe ?_)|refine acw ?_|refine ucv ?_|refine anw ?_|refine oa ?_|refine ld ?_|refine ldl ?_|refine lnm ?_|refine ixmn ?_|refine ixm ?_|refine li ?_|refine lv ?_|refine ln ?_|refine ixn ?_|refine ix ?_|refine le ?_|refine sr ?_|refine soi ?_|refine scm ?_|refine sclm ?_|refine schm ?_|refine gy ?_|refine gn ?_|refine gnn ?_|refine gu ?_|(refine gsi (fun hB => ?_) (fun hB => ?_) <;> try (exfalso; omega))|(refine gsn (fun hB => ?_) (fun hB => ?_) <;> try (exfalso; omega))|(refine gs (fun hB => ?_) (fun hB => ?_) <;> try (exfalso; omega)))|(refine gc ?_; first|refine ct ?_|refine cf ?_|(refine ci (fun hB => ?_) (fun hB => ?_) <;> try (exfalso; omega))|(refine cn (fun hB => ?_) (fun hB => ?_) <;> try (exfalso; omega))|(refine cb (fun hB => ?_) (fun hB => ?_) <;> try (exfalso; omega)))|refine sq ?_|refine rg ?_|refine xc ?_|refine nl ?_|refine sk ?_|refine bk ?_|refine xe ?_|refine rt ?_|refine xb ?_
    refine TO.im (B := mit r b clock (seen.push e.born) clock :: (lme b es clock :: lpt c [mp b] 97 :: J a)) (by exact Im.perm (by simp)) ?_
    rw [hk]
    refine cy (hy a k hNl) ?_ (hs := hF _)
    rintro ok B ⟨rfl, a', ha', rfl⟩
    repeat' first|(refine wo ?_; first|(refine ao ?_; first|refine aw ?_|refine aw6 ?_|refine oa ?_|refine adiv ?_|refine amod ?_|refine shr1 ?_|refine shr ?_|refine umod ?_|refine isl ?_|refine ipe ?_|refine ipn ?_|refine ibe ?_)|refine acw ?_|refine ucv ?_|refine anw ?_|refine oa ?_|refine ld ?_|refine ldl ?_|refine lnm ?_|refine ixmn ?_|refine ixm ?_|refine li ?_|refine lv ?_|refine ln ?_|refine ixn ?_|refine ix ?_|refine le ?_|refine sr ?_|refine soi ?_|refine scm ?_|refine sclm ?_|refine schm ?_|refine gy ?_|refine gn ?_|refine gnn ?_|refine gu ?_|(refine gsi (fun hB => ?_) (fun hB => ?_) <;> try (exfalso; omega))|(refine gsn (fun hB => ?_) (fun hB => ?_) <;> try (exfalso; omega))|(refine gs (fun hB => ?_) (fun hB => ?_) <;> try (exfalso; omega)))|(refine gc ?_; first|refine ct ?_|refine cf ?_|(refine ci (fun hB => ?_) (fun hB => ?_) <;> try (exfalso; omega))|(refine cn (fun hB => ?_) (fun hB => ?_) <;> try (exfalso; omega))|(refine cb (fun hB => ?_) (fun hB => ?_) <;> try (exfalso; omega)))|refine sq ?_|refine rg ?_|refine xc ?_|refine nl ?_|refine sk ?_|refine bk ?_|refine xe ?_|refine rt ?_|refine xb ?_
    refine lp (a', seen.push e.born) ⟨by dsimp only; rw [ha', List.nodup_append]; exact ⟨h1, by simp, fun x hx y hy e => hka (by rw [List.mem_singleton.1 hy] at e; rw [← e]; exact hx)⟩, fun k' => ?_⟩ (G := []) (hf := ?_) (hlt := left_shrinks es seen e he)
    · dsimp only
      rw [ha', List.mem_append, List.mem_singleton, h2]
      constructor
      · rintro (⟨e', h3, h4, h5⟩ | rfl)
        · exact ⟨e', h3, h4, by rw [contains_push, h5]; rfl⟩
        · exact ⟨e, he1, hk, by rw [contains_push]; simp⟩
      · rintro ⟨e', h3, h4, h5⟩
        rw [contains_push, Bool.or_eq_true] at h5
        rcases h5 with h5 | h5
        · exact .inl ⟨e', h3, h4, h5⟩
        · have hb : e'.born = e.born := by simpa using h5
          have := born_inj hnd h3 he1 hb
          subst this; rw [hk] at h4; cases h4; exact .inr rfl
    · dsimp only; rw [List.append_nil]; exact Fit.comm [mit r b clock (seen.push e.born) clock, lme b es clock, lpt c [mp b] 97] (J a')
theorem Keys_tr (b : Nat) : Tr Try.prog 81 [mp b] [] [] fun v D => ∃ c, v = .func (.func 92) #[] #[ptr c] ∧ D = [pt c [mp b] 97] := by
  refine Tr.enter env _ Try.func81 (by kernel_rfl) rfl Try.ntmps81 rfl (by repeat (first | exact has00 | refine has01 ?_)) fun w0 => ?_
  repeat' first|refine bx1 fun c => ?_|(refine wo ?_; first|(refine ao ?_; first|refine aw ?_|refine aw6 ?_|refine oa ?_|refine adiv ?_|refine amod ?_|refine shr1 ?_|refine shr ?_|refine umod ?_|refine isl ?_|refine ipe ?_|refine ipn ?_|refine ibe ?_)|refine acw ?_|refine ucv ?_|refine anw ?_|refine oa ?_|refine ld ?_|refine ldl ?_|refine lnm ?_|refine ixmn ?_|refine ixm ?_|refine li ?_|refine lv ?_|refine ln ?_|refine ixn ?_|refine ix ?_|refine le ?_|refine sr ?_|refine soi ?_|refine scm ?_|refine sclm ?_|refine schm ?_|refine gy ?_|refine gn ?_|refine gnn ?_|refine gu ?_|(refine gsi (fun hB => ?_) (fun hB => ?_) <;> try (exfalso; omega))|(refine gsn (fun hB => ?_) (fun hB => ?_) <;> try (exfalso; omega))|(refine gs (fun hB => ?_) (fun hB => ?_) <;> try (exfalso; omega)))|(refine gc ?_; first|refine ct ?_|refine cf ?_|(refine ci (fun hB => ?_) (fun hB => ?_) <;> try (exfalso; omega))|(refine cn (fun hB => ?_) (fun hB => ?_) <;> try (exfalso; omega))|(refine cb (fun hB => ?_) (fun hB => ?_) <;> try (exfalso; omega)))|refine sq ?_|refine rg ?_|refine xc ?_|refine nl ?_|refine sk ?_|refine bk ?_|refine xe ?_|refine rt ?_|refine xb ?_
  exact r1 ⟨c, rfl, rfl⟩
theorem srt_keys {k : Int} {p : Int → Bool} {zs : List Int} (h : zs.Nodup) (hz : ∀ x, x ∈ zs ↔ (0 ≤ x ∧ x < k) ∧ p x = true) : srt zs = (belowI k).filter p := by
  have h2 : ((belowI k).filter p).Pairwise (· < ·) := (belowI_sorted k).sublist List.filter_sublist
  refine List.Perm.eq_of_pairwise (le := (· ≤ ·)) (fun a b _ _ h1 h2 => by omega) (srt_sorted zs) (h2.imp fun h => Int.le_of_lt h) ?_
  refine (srt_perm zs).trans ?_
  rw [List.perm_ext_iff_of_nodup h (h2.imp fun h e => by omega)]
  intro x
  rw [hz, List.mem_filter, mem_belowI]
theorem nodup_len {zs L : List Int} (h1 : zs.Nodup) (hL : L.Nodup) (h : ∀ x ∈ zs, x ∈ L) : zs.length ≤ L.length := by
  have hp : zs.Perm (L.filter fun x => decide (x ∈ zs)) := by
    rw [List.perm_ext_iff_of_nodup h1 (hL.sublist List.filter_sublist)]
    intro x
    rw [List.mem_filter, decide_eq_true_eq]
    exact ⟨fun hx => ⟨h x hx, hx⟩, fun hx => hx.2⟩
  rw [hp.length_eq]; exact List.length_filter_le _ _
noncomputable def largeR (k : Int) (ls : List (List Int)) : List Int := if stopE k ls = 0 then largeL k ls else []
theorem Largest_tr (k : Int) (s : Value) (hs : List Value) (ls : List (List Int)) (hn : ls.length ≤ 4096) : Tr Try.prog 57 [I k, s] [vw s hs, vels hs ls] [] fun v D => ∃ o, v = tup2 o (I (stopE k ls)) ∧ D = [own 3 o (Is (largeR k ls))] := by
  refine Tr.enter env _ Try.func57 (by kernel_rfl) rfl Try.ntmps57 rfl (by repeat (first | exact has00 | refine has01 ?_)) fun w0 => ?_
  refine TC.els (hs := hs) (ls := ls) (fun hl => ?_)
  repeat' first|(refine gca ?_; first|(refine ca (refuses_tr _ _ _ ls) ?_; rintro _ _ ⟨rfl, rfl⟩))|(refine wo ?_; first|(refine ao ?_; first|refine aw ?_|refine aw6 ?_|refine oa ?_|refine adiv ?_|refine amod ?_|refine shr1 ?_|refine shr ?_|refine umod ?_|refine isl ?_|refine ipe ?_|refine ipn ?_|refine ibe ?_)|refine acw ?_|refine ucv ?_|refine anw ?_|refine oa ?_|refine ld ?_|refine ldl ?_|refine lnm ?_|refine ixmn ?_|refine ixm ?_|refine li ?_|refine lv ?_|refine ln ?_|refine ixn ?_|refine ix ?_|refine le ?_|refine sr ?_|refine soi ?_|refine scm ?_|refine sclm ?_|refine schm ?_|refine gy ?_|refine gn ?_|refine gnn ?_|refine gu ?_|(refine gsi (fun hB => ?_) (fun hB => ?_) <;> try (exfalso; omega))|(refine gsn (fun hB => ?_) (fun hB => ?_) <;> try (exfalso; omega))|(refine gs (fun hB => ?_) (fun hB => ?_) <;> try (exfalso; omega)))|(refine gc ?_; first|refine ct ?_|refine cf ?_|(refine ci (fun hB => ?_) (fun hB => ?_) <;> try (exfalso; omega))|(refine cn (fun hB => ?_) (fun hB => ?_) <;> try (exfalso; omega))|(refine cb (fun hB => ?_) (fun hB => ?_) <;> try (exfalso; omega)))|refine sq ?_|refine rg ?_|refine xc ?_|refine nl ?_|refine sk ?_|refine bk ?_|refine xe ?_|refine rt ?_|refine xb ?_
  · refine TX.im (own_nil 3 _) ?_
    exact r2 ⟨nS, rfl, by rw [largeR, if_neg (by assumption)]⟩
  have hE : stopE k ls = 0 := hB
  obtain ⟨hk1, hk2, hsets⟩ := stopE_zero hE
  refine ca (unknown_tr k s hs ls hE hn) ?_
  rintro _ _ ⟨b, G, g, rfl, rfl, hG⟩
  obtain ⟨-, hkn⟩ := known_of (k := k) (ls := ls) (left G) (fun s h0 h1 => by rw [hG]; simp [h0, h1])
  have hleft : ∀ x, (ones G x).isSome = true ↔ left G x = true := fun x => by unfold ones left; cases G x <;> simp
  have hD : ∀ zs, KeysOf (ones G) zs → srt zs = largeL k ls := fun zs h => by
    rw [hkn]
    refine srt_keys h.1 fun x => ?_
    rw [h.2, hleft]
    exact ⟨fun h => ⟨((hG x).1 h).1, h⟩, fun h => h.2⟩
  have hN : ∀ zs : List Int, zs.Nodup → (∀ x ∈ zs, (ones G x).isSome = true) → zs.length ≤ 65536 := fun zs h1 h2 => by
    have := nodup_len h1 ((belowI_sorted k).imp fun h e => by omega) fun x hx => mem_belowI.2 ((hG x).1 ((hleft x).1 (h2 x hx))).1
    rw [belowI_len] at this; omega
  repeat' first|(refine gca ?_; first|(refine ca (Keys_tr b) ?_; rintro _ _ ⟨c, rfl, rfl⟩))|(refine wo ?_; first|(refine ao ?_; first|refine aw ?_|refine aw6 ?_|refine oa ?_|refine adiv ?_|refine amod ?_|refine shr1 ?_|refine shr ?_|refine umod ?_|refine isl ?_|refine ipe ?_|refine ipn ?_|refine ibe ?_)|refine acw ?_|refine ucv ?_|refine anw ?_|refine oa ?_|refine ld ?_|refine ldl ?_|refine lnm ?_|refine ixmn ?_|refine ixm ?_|refine li ?_|refine lv ?_|refine ln ?_|refine ixn ?_|refine ix ?_|refine le ?_|refine sr ?_|refine soi ?_|refine scm ?_|refine sclm ?_|refine schm ?_|refine gy ?_|refine gn ?_|refine gnn ?_|refine gu ?_|(refine gsi (fun hB => ?_) (fun hB => ?_) <;> try (exfalso; omega))|(refine gsn (fun hB => ?_) (fun hB => ?_) <;> try (exfalso; omega))|(refine gs (fun hB => ?_) (fun hB => ?_) <;> try (exfalso; omega)))|(refine gc ?_; first|refine ct ?_|refine cf ?_|(refine ci (fun hB => ?_) (fun hB => ?_) <;> try (exfalso; omega))|(refine cn (fun hB => ?_) (fun hB => ?_) <;> try (exfalso; omega))|(refine cb (fun hB => ?_) (fun hB => ?_) <;> try (exfalso; omega)))|refine sq ?_|refine rg ?_|refine xc ?_|refine nl ?_|refine sk ?_|refine bk ?_|refine xe ?_|refine rt ?_|refine xb ?_
  refine ca (Sorted_tr (Keys1_seq c b (ones G) 65536 hN) (by decide)) ?_ (hp := has1 (by first | (apply has_vw; (repeat (first | apply List.Mem.head | apply List.Mem.tail)); first | done | fail) | (apply has_own; (repeat (first | apply List.Mem.head | apply List.Mem.tail)); first | done | fail) | (apply has_ro; (repeat (first | apply List.Mem.head | apply List.Mem.tail)); first | done | fail) | apply has_nil | ((with_reducible apply has_el); (focus (first | (apply has_vels; (repeat (first | apply List.Mem.head | apply List.Mem.tail)); first | done | fail) | (apply has_rels; (repeat (first | apply List.Mem.head | apply List.Mem.tail)); first | done | fail))); omega) | (apply has_pt; (repeat (first | apply List.Mem.head | apply List.Mem.tail)); first | done | fail) | (apply has_lpt; (repeat (first | apply List.Mem.head | apply List.Mem.tail)); first | done | fail) | (apply has_vels; (repeat (first | apply List.Mem.head | apply List.Mem.tail)); first | done | fail) | (apply has_rels; (repeat (first | apply List.Mem.head | apply List.Mem.tail)); first | done | fail) | with_reducible assumption) (has1 (has_mow (T := 3) (g := g) (o := none) (by (repeat (first | apply List.Mem.head | apply List.Mem.tail)); first | done | fail)) has0))
  rintro v _ ⟨zs, hz, rfl⟩
  rw [show largeR k ls = largeL k ls by rw [largeR, if_pos hE], hD zs hz, hE]
  repeat' first|(refine wo ?_; first|(refine ao ?_; first|refine aw ?_|refine aw6 ?_|refine oa ?_|refine adiv ?_|refine amod ?_|refine shr1 ?_|refine shr ?_|refine umod ?_|refine isl ?_|refine ipe ?_|refine ipn ?_|refine ibe ?_)|refine acw ?_|refine ucv ?_|refine anw ?_|refine oa ?_|refine ld ?_|refine ldl ?_|refine lnm ?_|refine ixmn ?_|refine ixm ?_|refine li ?_|refine lv ?_|refine ln ?_|refine ixn ?_|refine ix ?_|refine le ?_|refine sr ?_|refine soi ?_|refine scm ?_|refine sclm ?_|refine schm ?_|refine gy ?_|refine gn ?_|refine gnn ?_|refine gu ?_|(refine gsi (fun hB => ?_) (fun hB => ?_) <;> try (exfalso; omega))|(refine gsn (fun hB => ?_) (fun hB => ?_) <;> try (exfalso; omega))|(refine gs (fun hB => ?_) (fun hB => ?_) <;> try (exfalso; omega)))|(refine gc ?_; first|refine ct ?_|refine cf ?_|(refine ci (fun hB => ?_) (fun hB => ?_) <;> try (exfalso; omega))|(refine cn (fun hB => ?_) (fun hB => ?_) <;> try (exfalso; omega))|(refine cb (fun hB => ?_) (fun hB => ?_) <;> try (exfalso; omega)))|refine sq ?_|refine rg ?_|refine xc ?_|refine nl ?_|refine sk ?_|refine bk ?_|refine xe ?_|refine rt ?_|refine xb ?_
  exact r2 ⟨v, rfl, rfl⟩
theorem Fails_tr (k : Int) (s : Value) (hs : List Value) (ls : List (List Int)) (hn : ls.length ≤ 4096) : Tr Try.prog 59 [I k, s] [vw s hs, vels hs ls] [] fun v D => v = tup2 (.bool (decide (0 < (largeR k ls).length))) (I (stopE k ls)) ∧ D = [] := by
  refine Tr.enter env _ Try.func59 (by kernel_rfl) rfl Try.ntmps59 rfl (by repeat (first | exact has00 | refine has01 ?_)) fun w0 => ?_
  repeat' first|(refine gca ?_; first|(refine ca (Largest_tr _ _ _ ls hn) ?_; rintro _ _ ⟨o, rfl, rfl⟩))|(refine wo ?_; first|(refine ao ?_; first|refine aw ?_|refine aw6 ?_|refine oa ?_|refine adiv ?_|refine amod ?_|refine shr1 ?_|refine shr ?_|refine umod ?_|refine isl ?_|refine ipe ?_|refine ipn ?_|refine ibe ?_)|refine acw ?_|refine ucv ?_|refine anw ?_|refine oa ?_|refine ld ?_|refine ldl ?_|refine lnm ?_|refine ixmn ?_|refine ixm ?_|refine li ?_|refine lv ?_|refine ln ?_|refine ixn ?_|refine ix ?_|refine le ?_|refine sr ?_|refine soi ?_|refine scm ?_|refine sclm ?_|refine schm ?_|refine gy ?_|refine gn ?_|refine gnn ?_|refine gu ?_|(refine gsi (fun hB => ?_) (fun hB => ?_) <;> try (exfalso; omega))|(refine gsn (fun hB => ?_) (fun hB => ?_) <;> try (exfalso; omega))|(refine gs (fun hB => ?_) (fun hB => ?_) <;> try (exfalso; omega)))|(refine gc ?_; first|refine ct ?_|refine cf ?_|(refine ci (fun hB => ?_) (fun hB => ?_) <;> try (exfalso; omega))|(refine cn (fun hB => ?_) (fun hB => ?_) <;> try (exfalso; omega))|(refine cb (fun hB => ?_) (fun hB => ?_) <;> try (exfalso; omega)))|refine sq ?_|refine rg ?_|refine xc ?_|refine nl ?_|refine sk ?_|refine bk ?_|refine xe ?_|refine rt ?_|refine xb ?_
  refine r2 ⟨?_, rfl⟩
  congr 3
  simp
end Go.Art
