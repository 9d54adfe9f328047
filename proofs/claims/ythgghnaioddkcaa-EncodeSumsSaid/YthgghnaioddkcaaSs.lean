/- Subsets by lots of a seed, on pieces: the plain law, and the program's. Conditions: none. -/
import Derived.Test.YthgghnaioddkcaaLt
set_option linter.unusedSimpArgs false
set_option linter.unusedVariables false
namespace Go.Art
open Go Go.Proofs Go.RowKit

def upto (k : Nat) : List Int := (List.range k).map (fun i : Nat => (i : Int))
theorem upto_length (k : Nat) : (upto k).length = k := by simp [upto]
theorem upto_get (k i : Nat) (h : i < k) : (upto k).getD i 0 = i := by simp [upto, List.getD_eq_getElem?_getD, h]
theorem upto_succ (k : Nat) : upto (k + 1) = upto k ++ [(k : Int)] := by simp [upto, List.range_succ]
def swp (l : List Int) (i j : Nat) : List Int := (l.set j (l.getD i 0)).set i (l.getD j 0)
theorem swp_length (l : List Int) (i j : Nat) : (swp l i j).length = l.length := by simp [swp]
theorem swp_get (l : List Int) {i j : Nat} (t : Nat) (hi : i < l.length) (hj : j < l.length) : (swp l i j).getD t 0 = if t = i then l.getD j 0 else if t = j then l.getD i 0 else l.getD t 0 := by
  simp only [swp, List.getD_eq_getElem?_getD, List.getElem?_set, List.length_set]
  by_cases h1 : t = i
  · subst h1; simp [hi]
  · by_cases h2 : t = j
    · subst h2; simp [Ne.symm h1, h1, hj]
    · simp [Ne.symm h1, Ne.symm h2, h1, h2]


/-- Places drawn, m more, from place i on. -/
def ordL (k : Nat) : Nat → Nat → List Int → BitVec 64 → List Int × BitVec 64
  | 0, _, _, st => ([], st)
  | m + 1, i, l, st => (l.getD (i + (sdraw (k - i) st).1) 0 :: (ordL k m (i + 1) (swp l i (i + (sdraw (k - i) st).1)) (sdraw (k - i) st).2).1, (ordL k m (i + 1) (swp l i (i + (sdraw (k - i) st).1)) (sdraw (k - i) st).2).2)
theorem ordL_len (k : Nat) : ∀ (m i : Nat) (l : List Int) (st : BitVec 64), (ordL k m i l st).1.length = m
  | 0, _, _, _ => rfl
  | m + 1, i, l, st => by unfold ordL; simp [ordL_len k m]
def Sized (k d : Int) : Prop := 1 ≤ k ∧ k ≤ 65536 ∧ 1 ≤ d ∧ d ≤ k
instance (k d : Int) : Decidable (Sized k d) := by unfold Sized; infer_instance
/-- What Order tells: the places, the error; the state behind, how many were drawn. -/
def ordR (k d : Int) (st : BitVec 64) : (List Int × Int) × (BitVec 64 × Int) := if Sized k d then (((ordL k.toNat d.toNat 0 (upto k.toNat) st).1, 0), ((ordL k.toNat d.toNat 0 (upto k.toNat) st).2, d)) else (([], 3), (st, 0))

/-- A map, and one key's stamp. -/
def mps (b : Nat) (f : Int → Option Value) (k : Int) (st : Nat) : Ch where
  wr := fun x => x = b
  rd := fun _ => False
  bd := fun _ => False
  P := fun w => MapS w b f k st
  loc := fun {w w'} h hb => by obtain ⟨es, c, h1, h2⟩ := h.ex; exact ⟨es, c, (hb b (.inl rfl)).trans h1, h2⟩
  lt := fun h hb => by rcases hb with rfl | hb | hb; (obtain ⟨es, c, h1, h2⟩ := h.ex; exact lt_of_heap h1); exact hb.elim; exact hb.elim
section
variable {P : Program} {E : Env P} {n : Sh} {X : Cx} {s : List K} {fr : Fr} {A A' : List Ch} {ops : Array Oper} {rest : List Oper} {d : Nat} {ty t kt et : TypeId} {pos : String} {after : Array Edge} {x y u : Operand} {b sz by_ st : Nat} {f : Int → Option Value} {k : Int} {v z : Value}
theorem mpe (kk : ∀ st : Nat, TO E n X s ops rest ((d, .tuple #[(f k).getD z, I st]) :: fr) (mps b (updF f k ((f k).getD z)) k st :: A')) (hx : ev fr x = some (mp b) := by rfl) (hm : Tk (mpc b f) A A' := by (repeat (first | apply Tk.here | apply Tk.there)); first | done | fail) (hy : ev fr y = some (I k) := by rfl)
    (ht : lk E.und t = some (.map kt et) := by rfl) (hk : lk E.und kt = some dI := by rfl) (he : lk E.inf et = some (z, sz, by_) := by rfl) (hd : Nat.blt d n.n = true := by rfl) : TO E n X s ops (⟨some d, .mapEntry t x y, ty, pos, after, none⟩ :: rest) fr A := ⟨fun w hw => by
  have h1 := hw.im hm
  exact SO_mapEntry hd ht hk he hx hy (h1.mem (List.Mem.head _)) fun w' st hU hM => (kk st).run w' (h1.set (d := mps b (updF f k ((f k).getD z)) k st) hU (fun x hb => .inl (List.mem_singleton.1 hb)) hM (by rintro x (rfl | h | h); exact .inl rfl; exact h.elim; exact h.elim) (fun _ h => h))⟩
theorem mes (kk : TO E n X s ops rest fr (mpc b (updF f k v) :: A')) (hx : ev fr x = some (mp b) := by rfl) (hm : Tk (mps b f k st) A A' := by (repeat (first | apply Tk.here | apply Tk.there)); first | done | fail) (hy : ev fr y = some (I st) := by rfl) (hu : ev fr u = some v := by rfl) : TO E n X s ops (⟨none, .entryStore t x y u, ty, pos, after, none⟩ :: rest) fr A := ⟨fun w hw => by
  have h1 := hw.im hm
  exact SO_entryStore hx hy hu (h1.mem (List.Mem.head _)) fun w' hU hM => kk.run w' (h1.set (d := mpc b (updF f k v)) hU (fun x hb => .inl (List.mem_singleton.1 hb)) hM (by rintro x (rfl | h | h); exact .inl rfl; exact h.elim; exact h.elim) (fun _ h => h))⟩
end
attribute [local irreducible] Fit pt own ro vw mpc lpt vels rels mow lrc dfr
attribute [local irreducible] mps lmp lme mit

theorem sized_tr (k d : Int) : Tr Try.prog 55 [I k, I d] [] [] fun v D => v = .bool (decide (Sized k d)) ∧ D = [] := by
  refine Tr.enter env _ Try.func55 (by kernel_rfl) rfl Try.ntmps55 rfl (by repeat (first | exact has00 | refine has01 ?_)) fun w0 => ?_
  repeat' first|(refine wo ?_; first|(refine ao ?_; first|refine aw ?_|refine aw6 ?_|refine oa ?_|refine adiv ?_|refine amod ?_|refine shr1 ?_|refine shr ?_|refine umod ?_|refine isl ?_|refine ipe ?_|refine ipn ?_|refine ibe ?_)|refine acw ?_|refine ucv ?_|refine anw ?_|refine oa ?_|refine ld ?_|refine ldl ?_|refine lnm ?_|refine ixmn ?_|refine ixm ?_|refine li ?_|refine lv ?_|refine ln ?_|refine ixn ?_|refine ix ?_|refine le ?_|refine sr ?_|refine soi ?_|refine scm ?_|refine sclm ?_|refine schm ?_|refine gy ?_|refine gn ?_|refine gnn ?_|refine gu ?_|(refine gsi (fun hB => ?_) (fun hB => ?_) <;> try (exfalso; omega))|(refine gsn (fun hB => ?_) (fun hB => ?_) <;> try (exfalso; omega))|(refine gs (fun hB => ?_) (fun hB => ?_) <;> try (exfalso; omega)))|(refine gc ?_; first|refine ct ?_|refine cf ?_|(refine ci (fun hB => ?_) (fun hB => ?_) <;> try (exfalso; omega))|(refine cn (fun hB => ?_) (fun hB => ?_) <;> try (exfalso; omega))|(refine cb (fun hB => ?_) (fun hB => ?_) <;> try (exfalso; omega)))|refine sq ?_|refine rg ?_|refine xc ?_|refine nl ?_|refine sk ?_|refine bk ?_|refine xe ?_|refine rt ?_|refine xb ?_
  all_goals refine r1 ⟨?_, rfl⟩
  all_goals first
    | rw [decide_eq_false (fun h : Sized k d => by unfold Sized at h; omega)]
    | (congr 1; exact decide_eq_decide.2 ⟨fun h => by unfold Sized; omega, fun h => by unfold Sized at h; omega⟩)
theorem updF_twice (f : Int → Option Value) (k : Int) (v v' : Value) : updF (updF f k v) k v' = updF f k v' := by
  funext i; unfold updF; by_cases e : i = k
  · rw [if_pos e, if_pos e]
  · rw [if_neg e, if_neg e, if_neg e]
/-- A map that tells the places: what it does not hold stays. -/
def PlcF (f : Int → Option Value) (g : Int → Int) : Prop := ∀ i, (f i = none ∧ g i = i) ∨ f i = some (I (g i))
def upg (g : Int → Int) (k v : Int) : Int → Int := fun k' => if k' = k then v else g k'
theorem PlcF.put {f : Int → Option Value} {g : Int → Int} (h : PlcF f g) (k v : Int) : PlcF (updF f k (I v)) (upg g k v) := fun i => by
  unfold updF upg
  by_cases e : i = k
  · rw [if_pos e, if_pos e]; exact .inr rfl
  · rw [if_neg e, if_neg e]; exact h i
theorem at_tr (b : Nat) (f : Int → Option Value) (g : Int → Int) (i : Int) (h : PlcF f g) : Tr Try.prog 57 [mp b, I i] [] [mpc b f] fun v D => v = I (g i) ∧ D = [mpc b f] := by
  refine Tr.enter env _ Try.func57 (by kernel_rfl) rfl Try.ntmps57 rfl (by repeat (first | exact has00 | refine has01 ?_)) fun w0 => ?_
  rcases h i with ⟨h1, h2⟩ | h1
  · repeat' first|refine mlN ?_ h1|(refine wo ?_; first|(refine ao ?_; first|refine aw ?_|refine aw6 ?_|refine oa ?_|refine adiv ?_|refine amod ?_|refine shr1 ?_|refine shr ?_|refine umod ?_|refine isl ?_|refine ipe ?_|refine ipn ?_|refine ibe ?_)|refine acw ?_|refine ucv ?_|refine anw ?_|refine oa ?_|refine ld ?_|refine ldl ?_|refine lnm ?_|refine ixmn ?_|refine ixm ?_|refine li ?_|refine lv ?_|refine ln ?_|refine ixn ?_|refine ix ?_|refine le ?_|refine sr ?_|refine soi ?_|refine scm ?_|refine sclm ?_|refine schm ?_|refine gy ?_|refine gn ?_|refine gnn ?_|refine gu ?_|(refine gsi (fun hB => ?_) (fun hB => ?_) <;> try (exfalso; omega))|(refine gsn (fun hB => ?_) (fun hB => ?_) <;> try (exfalso; omega))|(refine gs (fun hB => ?_) (fun hB => ?_) <;> try (exfalso; omega)))|(refine gc ?_; first|refine ct ?_|refine cf ?_|(refine ci (fun hB => ?_) (fun hB => ?_) <;> try (exfalso; omega))|(refine cn (fun hB => ?_) (fun hB => ?_) <;> try (exfalso; omega))|(refine cb (fun hB => ?_) (fun hB => ?_) <;> try (exfalso; omega)))|refine sq ?_|refine rg ?_|refine xc ?_|refine nl ?_|refine sk ?_|refine bk ?_|refine xe ?_|refine rt ?_|refine xb ?_
    exact r1 ⟨by rw [h2], rfl⟩
  · repeat' first|refine mlS ?_ h1|(refine wo ?_; first|(refine ao ?_; first|refine aw ?_|refine aw6 ?_|refine oa ?_|refine adiv ?_|refine amod ?_|refine shr1 ?_|refine shr ?_|refine umod ?_|refine isl ?_|refine ipe ?_|refine ipn ?_|refine ibe ?_)|refine acw ?_|refine ucv ?_|refine anw ?_|refine oa ?_|refine ld ?_|refine ldl ?_|refine lnm ?_|refine ixmn ?_|refine ixm ?_|refine li ?_|refine lv ?_|refine ln ?_|refine ixn ?_|refine ix ?_|refine le ?_|refine sr ?_|refine soi ?_|refine scm ?_|refine sclm ?_|refine schm ?_|refine gy ?_|refine gn ?_|refine gnn ?_|refine gu ?_|(refine gsi (fun hB => ?_) (fun hB => ?_) <;> try (exfalso; omega))|(refine gsn (fun hB => ?_) (fun hB => ?_) <;> try (exfalso; omega))|(refine gs (fun hB => ?_) (fun hB => ?_) <;> try (exfalso; omega)))|(refine gc ?_; first|refine ct ?_|refine cf ?_|(refine ci (fun hB => ?_) (fun hB => ?_) <;> try (exfalso; omega))|(refine cn (fun hB => ?_) (fun hB => ?_) <;> try (exfalso; omega))|(refine cb (fun hB => ?_) (fun hB => ?_) <;> try (exfalso; omega)))|refine sq ?_|refine rg ?_|refine xc ?_|refine nl ?_|refine sk ?_|refine bk ?_|refine xe ?_|refine rt ?_|refine xb ?_
    exact r1 ⟨rfl, rfl⟩
theorem exchange_tr (b : Nat) (f : Int → Option Value) (g : Int → Int) (i j : Int) (h : PlcF f g) : Tr Try.prog 56 [mp b, I i, I j] [] [mpc b f] fun _ D => ∃ f', D = [mpc b f'] ∧ PlcF f' (upg (upg g i (g j)) j (g i)) := by
  refine Tr.enter env _ Try.func56 (by kernel_rfl) rfl Try.ntmps56 rfl (by repeat (first | exact has00 | refine has01 ?_)) fun w0 => ?_
  repeat' first|(refine gca ?_; first|(refine ca (at_tr b f g _ h) ?_; rintro _ _ ⟨rfl, rfl⟩))|refine mpe fun st => ?_|refine mes ?_|refine mu ?_|(refine wo ?_; first|(refine ao ?_; first|refine aw ?_|refine aw6 ?_|refine oa ?_|refine adiv ?_|refine amod ?_|refine shr1 ?_|refine shr ?_|refine umod ?_|refine isl ?_|refine ipe ?_|refine ipn ?_|refine ibe ?_)|refine acw ?_|refine ucv ?_|refine anw ?_|refine oa ?_|refine ld ?_|refine ldl ?_|refine lnm ?_|refine ixmn ?_|refine ixm ?_|refine li ?_|refine lv ?_|refine ln ?_|refine ixn ?_|refine ix ?_|refine le ?_|refine sr ?_|refine soi ?_|refine scm ?_|refine sclm ?_|refine schm ?_|refine gy ?_|refine gn ?_|refine gnn ?_|refine gu ?_|(refine gsi (fun hB => ?_) (fun hB => ?_) <;> try (exfalso; omega))|(refine gsn (fun hB => ?_) (fun hB => ?_) <;> try (exfalso; omega))|(refine gs (fun hB => ?_) (fun hB => ?_) <;> try (exfalso; omega)))|(refine gc ?_; first|refine ct ?_|refine cf ?_|(refine ci (fun hB => ?_) (fun hB => ?_) <;> try (exfalso; omega))|(refine cn (fun hB => ?_) (fun hB => ?_) <;> try (exfalso; omega))|(refine cb (fun hB => ?_) (fun hB => ?_) <;> try (exfalso; omega)))|refine sq ?_|refine rg ?_|refine xc ?_|refine nl ?_|refine sk ?_|refine bk ?_|refine xe ?_|refine rt ?_|refine xb ?_
  rw [updF_twice]
  exact e0 ⟨_, rfl, (h.put i (g j)).put j (g i)⟩
theorem Values_tr (s : Value) (hs : s.oneCell' = true) : Tr Try.prog 50 [s] [] [] fun v D => ∃ c, v = .func (.func 60) #[] #[ptr c] ∧ D = [pt c [s] 23] := by
  refine Tr.enter env _ Try.func50 (by kernel_rfl) rfl Try.ntmps50 rfl (by repeat (first | exact has00 | refine has01 ?_)) fun w0 => ?_
  repeat' first|refine bx1 fun c => ?_|(refine wo ?_; first|(refine ao ?_; first|refine aw ?_|refine aw6 ?_|refine oa ?_|refine adiv ?_|refine amod ?_|refine shr1 ?_|refine shr ?_|refine umod ?_|refine isl ?_|refine ipe ?_|refine ipn ?_|refine ibe ?_)|refine acw ?_|refine ucv ?_|refine anw ?_|refine oa ?_|refine ld ?_|refine ldl ?_|refine lnm ?_|refine ixmn ?_|refine ixm ?_|refine li ?_|refine lv ?_|refine ln ?_|refine ixn ?_|refine ix ?_|refine le ?_|refine sr ?_|refine soi ?_|refine scm ?_|refine sclm ?_|refine schm ?_|refine gy ?_|refine gn ?_|refine gnn ?_|refine gu ?_|(refine gsi (fun hB => ?_) (fun hB => ?_) <;> try (exfalso; omega))|(refine gsn (fun hB => ?_) (fun hB => ?_) <;> try (exfalso; omega))|(refine gs (fun hB => ?_) (fun hB => ?_) <;> try (exfalso; omega)))|(refine gc ?_; first|refine ct ?_|refine cf ?_|(refine ci (fun hB => ?_) (fun hB => ?_) <;> try (exfalso; omega))|(refine cn (fun hB => ?_) (fun hB => ?_) <;> try (exfalso; omega))|(refine cb (fun hB => ?_) (fun hB => ?_) <;> try (exfalso; omega)))|refine sq ?_|refine rg ?_|refine xc ?_|refine nl ?_|refine sk ?_|refine bk ?_|refine xe ?_|refine rt ?_|refine xb ?_
  exact r1 ⟨c, rfl, rfl⟩
theorem Values1_seq (c : Nat) (s : Value) (xs : List Int) : SeqC Try.prog 60 #[ptr c] [lpt c [s] 23, vw s (Is xs)] xs.length (· = xs) := by
  refine ⟨?_, fun zs h => by rw [h]; exact Nat.le_refl _, by (repeat (first | exact has00 | refine has01 ?_)); first | done | fail⟩
  intro α l J el a0 h0 hnb hy
  refine Tr.enter env _ Try.func60 (by kernel_rfl) rfl Try.ntmps60 rfl (by repeat (first | exact has00 | refine has01 ?_)) fun w0 => ?_
  refine TC.leni (l := xs) fun hxl => ?_
  repeat' first|(refine wo ?_; first|(refine ao ?_; first|refine aw ?_|refine aw6 ?_|refine oa ?_|refine adiv ?_|refine amod ?_|refine shr1 ?_|refine shr ?_|refine umod ?_|refine isl ?_|refine ipe ?_|refine ipn ?_|refine ibe ?_)|refine acw ?_|refine ucv ?_|refine anw ?_|refine oa ?_|refine ld ?_|refine ldl ?_|refine lnm ?_|refine ixmn ?_|refine ixm ?_|refine li ?_|refine lv ?_|refine ln ?_|refine ixn ?_|refine ix ?_|refine le ?_|refine sr ?_|refine soi ?_|refine scm ?_|refine sclm ?_|refine schm ?_|refine gy ?_|refine gn ?_|refine gnn ?_|refine gu ?_|(refine gsi (fun hB => ?_) (fun hB => ?_) <;> try (exfalso; omega))|(refine gsn (fun hB => ?_) (fun hB => ?_) <;> try (exfalso; omega))|(refine gs (fun hB => ?_) (fun hB => ?_) <;> try (exfalso; omega)))|(refine gc ?_; first|refine ct ?_|refine cf ?_|(refine ci (fun hB => ?_) (fun hB => ?_) <;> try (exfalso; omega))|(refine cn (fun hB => ?_) (fun hB => ?_) <;> try (exfalso; omega))|(refine cb (fun hB => ?_) (fun hB => ?_) <;> try (exfalso; omega)))|refine sq ?_|refine rg ?_|refine xc ?_|refine nl ?_|refine sk ?_|refine bk ?_|refine xe ?_|refine rt ?_|refine xb ?_
  refine TC.loop (ι := Nat × α) (fun i => [(7, I i.1)]) (fun i => lpt c [s] 23 :: vw s (Is xs) :: J i.2) (fun i => i.1 ≤ xs.length ∧ el i.2 = xs.take i.1) (fun i => xs.length - i.1) (0, a0) [0, 5, 6] ⟨by simp, by rw [h0]; rfl⟩ ?_ (hf := Fit.all)
  rintro ⟨i, a⟩ ⟨h1, h2⟩
  have hF : Fit (lpt c [s] 23 :: vw s (Is xs) :: J a) (J a) [lpt c [s] 23, vw s (Is xs)] := Fit.app [lpt c [s] 23, vw s (Is xs)] (J a)
  refine TC.im (B := lpt c [s] 23 :: vw s (Is xs) :: J a) (by exact Im.perm (by simp)) ?_
  by_cases hi : i < xs.length
  · have hts := take_succ' hi 0
    repeat' first|refine cy (hy a (xs.getD i 0) (by rw [h2, List.length_take]; omega)) ?_ (hs := hF)|(refine wo ?_; first|(refine ao ?_; first|refine aw ?_|refine aw6 ?_|refine oa ?_|refine adiv ?_|refine amod ?_|refine shr1 ?_|refine shr ?_|refine umod ?_|refine isl ?_|refine ipe ?_|refine ipn ?_|refine ibe ?_)|refine acw ?_|refine ucv ?_|refine anw ?_|refine oa ?_|refine ld ?_|refine ldl ?_|refine lnm ?_|refine ixmn ?_|refine ixm ?_|refine li ?_|refine lv ?_|refine ln ?_|refine ixn ?_|refine ix ?_|refine le ?_|refine sr ?_|refine soi ?_|refine scm ?_|refine sclm ?_|refine schm ?_|refine gy ?_|refine gn ?_|refine gnn ?_|refine gu ?_|(refine gsi (fun hB => ?_) (fun hB => ?_) <;> try (exfalso; omega))|(refine gsn (fun hB => ?_) (fun hB => ?_) <;> try (exfalso; omega))|(refine gs (fun hB => ?_) (fun hB => ?_) <;> try (exfalso; omega)))|(refine gc ?_; first|refine ct ?_|refine cf ?_|(refine ci (fun hB => ?_) (fun hB => ?_) <;> try (exfalso; omega))|(refine cn (fun hB => ?_) (fun hB => ?_) <;> try (exfalso; omega))|(refine cb (fun hB => ?_) (fun hB => ?_) <;> try (exfalso; omega)))|refine sq ?_|refine rg ?_|refine xc ?_|refine nl ?_|refine sk ?_|refine bk ?_|refine xe ?_|refine rt ?_|refine xb ?_
    rintro ok B ⟨rfl, a', ha', rfl⟩
    repeat' first|(refine wo ?_; first|(refine ao ?_; first|refine aw ?_|refine aw6 ?_|refine oa ?_|refine adiv ?_|refine amod ?_|refine shr1 ?_|refine shr ?_|refine umod ?_|refine isl ?_|refine ipe ?_|refine ipn ?_|refine ibe ?_)|refine acw ?_|refine ucv ?_|refine anw ?_|refine oa ?_|refine ld ?_|refine ldl ?_|refine lnm ?_|refine ixmn ?_|refine ixm ?_|refine li ?_|refine lv ?_|refine ln ?_|refine ixn ?_|refine ix ?_|refine le ?_|refine sr ?_|refine soi ?_|refine scm ?_|refine sclm ?_|refine schm ?_|refine gy ?_|refine gn ?_|refine gnn ?_|refine gu ?_|(refine gsi (fun hB => ?_) (fun hB => ?_) <;> try (exfalso; omega))|(refine gsn (fun hB => ?_) (fun hB => ?_) <;> try (exfalso; omega))|(refine gs (fun hB => ?_) (fun hB => ?_) <;> try (exfalso; omega)))|(refine gc ?_; first|refine ct ?_|refine cf ?_|(refine ci (fun hB => ?_) (fun hB => ?_) <;> try (exfalso; omega))|(refine cn (fun hB => ?_) (fun hB => ?_) <;> try (exfalso; omega))|(refine cb (fun hB => ?_) (fun hB => ?_) <;> try (exfalso; omega)))|refine sq ?_|refine rg ?_|refine xc ?_|refine nl ?_|refine sk ?_|refine bk ?_|refine xe ?_|refine rt ?_|refine xb ?_
    refine lp (i + 1, a') ⟨by dsimp only; omega, by dsimp only; rw [ha', h2, hts]⟩ (G := []) (hf := ?_)
    dsimp only; rw [List.append_nil]; exact Fit.comm [lpt c [s] 23, vw s (Is xs)] (J a')
  · obtain rfl : i = xs.length := by dsimp only at h1; omega
    rw [List.take_length] at h2
    repeat' first|(refine wo ?_; first|(refine ao ?_; first|refine aw ?_|refine aw6 ?_|refine oa ?_|refine adiv ?_|refine amod ?_|refine shr1 ?_|refine shr ?_|refine umod ?_|refine isl ?_|refine ipe ?_|refine ipn ?_|refine ibe ?_)|refine acw ?_|refine ucv ?_|refine anw ?_|refine oa ?_|refine ld ?_|refine ldl ?_|refine lnm ?_|refine ixmn ?_|refine ixm ?_|refine li ?_|refine lv ?_|refine ln ?_|refine ixn ?_|refine ix ?_|refine le ?_|refine sr ?_|refine soi ?_|refine scm ?_|refine sclm ?_|refine schm ?_|refine gy ?_|refine gn ?_|refine gnn ?_|refine gu ?_|(refine gsi (fun hB => ?_) (fun hB => ?_) <;> try (exfalso; omega))|(refine gsn (fun hB => ?_) (fun hB => ?_) <;> try (exfalso; omega))|(refine gs (fun hB => ?_) (fun hB => ?_) <;> try (exfalso; omega)))|(refine gc ?_; first|refine ct ?_|refine cf ?_|(refine ci (fun hB => ?_) (fun hB => ?_) <;> try (exfalso; omega))|(refine cn (fun hB => ?_) (fun hB => ?_) <;> try (exfalso; omega))|(refine cb (fun hB => ?_) (fun hB => ?_) <;> try (exfalso; omega)))|refine sq ?_|refine rg ?_|refine xc ?_|refine nl ?_|refine sk ?_|refine bk ?_|refine xe ?_|refine rt ?_|refine xb ?_
    exact e0 (D := J a) ⟨a, h2, rfl⟩ (hf := hF) (nb := hnb a)
/-- What a map tells is what a list holds. -/
def RelG (k : Nat) (l : List Int) (g : Int → Int) : Prop := l.length = k ∧ ∀ t : Nat, t < k → g t = l.getD t 0
theorem RelG.step {k : Nat} {l : List Int} {g : Int → Int} (h : RelG k l g) {i j : Nat} (hi : i < k) (hj : j < k) : RelG k (swp l i j) (upg (upg g i (g j)) j (g i)) ∧ upg (upg g i (g j)) j (g i) i = l.getD j 0 := by
  have key : ∀ t : Nat, t < k → upg (upg g i (g j)) j (g i) t = (swp l i j).getD t 0 := fun t ht => by
    rw [swp_get l t (by rw [h.1]; exact hi) (by rw [h.1]; exact hj)]
    unfold upg
    by_cases e1 : t = i
    · subst e1
      rw [if_pos rfl]
      by_cases e2 : (t : Int) = j
      · have e3 : t = j := by omega
        subst e3; rw [if_pos rfl, if_pos rfl, h.2 t ht]
      · rw [if_neg e2, if_pos rfl, h.2 j hj]
    · rw [if_neg e1]
      by_cases e2 : t = j
      · subst e2; rw [if_pos rfl, if_pos rfl, h.2 i hi]
      · rw [if_neg e2, if_neg (by omega), if_neg (by omega), h.2 t ht]
  refine ⟨⟨by rw [swp_length, h.1], key⟩, ?_⟩
  rw [key i hi, swp_get l i (by rw [h.1]; exact hi) (by rw [h.1]; exact hj), if_pos rfl]
structure OrG where
  i : Nat
  o : Value
  f : Int → Option Value
  l : List Int
  outs : List Int
  st : BitVec 64
theorem Order_tr (b r : Nat) (st : BitVec 64) (used k d : Int) (hu : 0 ≤ used ∧ used ≤ 1152921504606846976) : Tr Try.prog 48 [ptr b, I k, I d] [] (lotP b r st used false)
    fun v D => ∃ o, v = tup2 o (I (ordR k d st).1.2) ∧ D = own 3 o (Is (ordR k d st).1.1) :: lotP b r (ordR k d st).2.1 (used + (ordR k d st).2.2) false := by
  have hl0 : ldraw 0 st used = ((0, 3), (st, used)) := if_neg (by omega)
  refine Tr.enter env _ Try.func48 (by kernel_rfl) rfl Try.ntmps48 rfl (by repeat (first | exact has00 | refine has01 ?_)) fun w0 => ?_
  refine TC.im (own_nil 3 _) ?_
  repeat' first|(refine gca ?_; first|(refine ca (Draw_tr b r st used 0 (by omega)) ?_; rintro _ _ ⟨rfl, rfl⟩; rw [hl0])|(refine ca (sized_tr k d) ?_; rintro _ _ ⟨rfl, rfl⟩))|refine mm fun p => ?_|(refine wo ?_; first|(refine ao ?_; first|refine aw ?_|refine aw6 ?_|refine oa ?_|refine adiv ?_|refine amod ?_|refine shr1 ?_|refine shr ?_|refine umod ?_|refine isl ?_|refine ipe ?_|refine ipn ?_|refine ibe ?_)|refine acw ?_|refine ucv ?_|refine anw ?_|refine oa ?_|refine ld ?_|refine ldl ?_|refine lnm ?_|refine ixmn ?_|refine ixm ?_|refine li ?_|refine lv ?_|refine ln ?_|refine ixn ?_|refine ix ?_|refine le ?_|refine sr ?_|refine soi ?_|refine scm ?_|refine sclm ?_|refine schm ?_|refine gy ?_|refine gn ?_|refine gnn ?_|refine gu ?_|(refine gsi (fun hB => ?_) (fun hB => ?_) <;> try (exfalso; omega))|(refine gsn (fun hB => ?_) (fun hB => ?_) <;> try (exfalso; omega))|(refine gs (fun hB => ?_) (fun hB => ?_) <;> try (exfalso; omega)))|(refine gc ?_; first|refine ct ?_|refine cf ?_|(refine ci (fun hB => ?_) (fun hB => ?_) <;> try (exfalso; omega))|(refine cn (fun hB => ?_) (fun hB => ?_) <;> try (exfalso; omega))|(refine cb (fun hB => ?_) (fun hB => ?_) <;> try (exfalso; omega)))|refine sq ?_|refine rg ?_|refine xc ?_|refine nl ?_|refine sk ?_|refine bk ?_|refine xe ?_|refine rt ?_|refine xb ?_
  · rw [show ordR k d st = (([], 3), (st, 0)) from if_neg (by assumption)]
    exact r2 (D := own 3 nS (Is []) :: lotP b r st used false) ⟨nS, rfl, by dsimp only; rw [Int.add_zero]⟩
  have hsz : Sized k d := by assumption
  obtain ⟨k1, k2, d1, d2⟩ := id hsz
  rw [show ordR k d st = (((ordL k.toNat d.toNat 0 (upto k.toNat) st).1, 0), ((ordL k.toNat d.toNat 0 (upto k.toNat) st).2, d)) from if_pos hsz]
  generalize hF : ordL k.toNat d.toNat 0 (upto k.toNat) st = Fn at *
  refine TC.loop (ι := OrG) (fun u => [(29, I u.i), (11, u.o)]) (fun u => own 3 u.o (Is u.outs) :: mpc p u.f :: lotP b r u.st (used + u.i) false) (fun u => u.i ≤ d.toNat ∧ u.outs.length = u.i ∧ (∃ g, PlcF u.f g ∧ RelG k.toNat u.l g) ∧ u.outs ++ (ordL k.toNat (d.toNat - u.i) u.i u.l u.st).1 = Fn.1 ∧ (ordL k.toNat (d.toNat - u.i) u.i u.l u.st).2 = Fn.2)
    (fun u => d.toNat - u.i) ⟨0, nS, fun _ => none, upto k.toNat, [], st⟩ [0, 1, 2, 10, 28] ⟨by simp, rfl, ⟨fun i => i, fun i => .inl ⟨rfl, rfl⟩, upto_length _, fun t ht => (upto_get _ _ ht).symm⟩, by simp [hF], by simp [hF]⟩ ?_ (hf := by dsimp only; rw [show used + ((0 : Nat) : Int) = used by omega]; first | apply Fit.all | ((repeat (first | (apply Fit.nilN; (repeat (first | apply nrm_nil | apply nrm_cons)); try apply nrm_rfl) | (apply Fit.cons; focus ((repeat (first | apply Tk.here | apply Tk.there)); first | done | fail)))); first | done | fail))
  rintro ⟨i, o, f, l, outs, st'⟩ ⟨h1, h2, ⟨g, hg1, hg2⟩, h3, h4⟩
  dsimp only at h1 h2 hg1 hg2 h3 h4 ⊢
  by_cases hi : i < d.toNat
  · have hki : 1 ≤ k - (i : Int) ∧ k - (i : Int) ≤ 1099511627776 := by omega
    have hld : ldraw (k - i) st' (used + i) = ((((sdraw (k - i).toNat st').1 : Int), 0), ((sdraw (k - i).toNat st').2, used + i + 1)) := if_pos hki
    have hlt := sdraw_lt (n := (k - i).toNat) (by omega) st'
    have hkn : (k - (i : Int)).toNat = k.toNat - i := by omega
    rw [hkn] at hld hlt
    rw [show d.toNat - i = (d.toNat - (i + 1)) + 1 by omega] at h3 h4
    unfold ordL at h3 h4
    dsimp only at h3 h4
    generalize hs : (sdraw (k.toNat - i) st').1 = s at *
    generalize (sdraw (k.toNat - i) st').2 = st2 at *
    obtain ⟨q1, q2⟩ := hg2.step (i := i) (j := i + s) (by omega) (by omega)
    have hD := Draw_tr b r st' (used + i) (k - i) (by omega)
    rw [hld] at hD
    dsimp only at hD
    have hl3 := congrArg List.length h3
    rw [List.length_append, List.length_cons] at hl3
    rw [show ((i + s : Nat) : Int) = (i : Int) + s by omega] at q1 q2
    repeat' first|(refine gca ?_; first|(refine ca hD ?_; rintro _ _ ⟨rfl, rfl⟩)|(refine ca (exchange_tr p f g i _ hg1) ?_; rintro _ _ ⟨f', rfl, hg'⟩)|(refine ca (at_tr p f' _ i hg') ?_; rintro _ _ ⟨rfl, rfl⟩))|(refine wo ?_; first|(refine ao ?_; first|refine aw ?_|refine aw6 ?_|refine oa ?_|refine adiv ?_|refine amod ?_|refine shr1 ?_|refine shr ?_|refine umod ?_|refine isl ?_|refine ipe ?_|refine ipn ?_|refine ibe ?_)|refine acw ?_|refine ucv ?_|refine anw ?_|refine oa ?_|refine ld ?_|refine ldl ?_|refine lnm ?_|refine ixmn ?_|refine ixm ?_|refine li ?_|refine lv ?_|refine ln ?_|refine ixn ?_|refine ix ?_|refine le ?_|refine sr ?_|refine soi ?_|refine scm ?_|refine sclm ?_|refine schm ?_|refine gy ?_|refine gn ?_|refine gnn ?_|refine gu ?_|(refine gsi (fun hB => ?_) (fun hB => ?_) <;> try (exfalso; omega))|(refine gsn (fun hB => ?_) (fun hB => ?_) <;> try (exfalso; omega))|(refine gs (fun hB => ?_) (fun hB => ?_) <;> try (exfalso; omega)))|(refine gc ?_; first|refine ct ?_|refine cf ?_|(refine ci (fun hB => ?_) (fun hB => ?_) <;> try (exfalso; omega))|(refine cn (fun hB => ?_) (fun hB => ?_) <;> try (exfalso; omega))|(refine cb (fun hB => ?_) (fun hB => ?_) <;> try (exfalso; omega)))|refine sq ?_|refine rg ?_|refine xc ?_|refine nl ?_|refine sk ?_|refine bk ?_|refine xe ?_|refine rt ?_|refine xb ?_
    rw [q2]
    refine slii [l.getD (i + s) 0] fun v1 => ?_
    refine api (v := o) (l := outs) (news := [l.getD (i + s) 0]) fun v2 => ?_
    repeat' first|(refine wo ?_; first|(refine ao ?_; first|refine aw ?_|refine aw6 ?_|refine oa ?_|refine adiv ?_|refine amod ?_|refine shr1 ?_|refine shr ?_|refine umod ?_|refine isl ?_|refine ipe ?_|refine ipn ?_|refine ibe ?_)|refine acw ?_|refine ucv ?_|refine anw ?_|refine oa ?_|refine ld ?_|refine ldl ?_|refine lnm ?_|refine ixmn ?_|refine ixm ?_|refine li ?_|refine lv ?_|refine ln ?_|refine ixn ?_|refine ix ?_|refine le ?_|refine sr ?_|refine soi ?_|refine scm ?_|refine sclm ?_|refine schm ?_|refine gy ?_|refine gn ?_|refine gnn ?_|refine gu ?_|(refine gsi (fun hB => ?_) (fun hB => ?_) <;> try (exfalso; omega))|(refine gsn (fun hB => ?_) (fun hB => ?_) <;> try (exfalso; omega))|(refine gs (fun hB => ?_) (fun hB => ?_) <;> try (exfalso; omega)))|(refine gc ?_; first|refine ct ?_|refine cf ?_|(refine ci (fun hB => ?_) (fun hB => ?_) <;> try (exfalso; omega))|(refine cn (fun hB => ?_) (fun hB => ?_) <;> try (exfalso; omega))|(refine cb (fun hB => ?_) (fun hB => ?_) <;> try (exfalso; omega)))|refine sq ?_|refine rg ?_|refine xc ?_|refine nl ?_|refine sk ?_|refine bk ?_|refine xe ?_|refine rt ?_|refine xb ?_
    refine lp ⟨i + 1, v2, f', swp l i (i + s), outs ++ [l.getD (i + s) 0], st2⟩ ⟨by dsimp only; omega, by simp [h2], ⟨_, hg', q1⟩, by rw [List.append_assoc]; exact h3, h4⟩ (hf := by dsimp only; rw [show used + ((i + 1 : Nat) : Int) = used + i + 1 by omega]; first | apply Fit.all | ((repeat (first | (apply Fit.nilN; (repeat (first | apply nrm_nil | apply nrm_cons)); try apply nrm_rfl) | (apply Fit.cons; focus ((repeat (first | apply Tk.here | apply Tk.there)); first | done | fail)))); first | done | fail))
  · obtain rfl : i = d.toNat := by omega
    rw [Nat.sub_self] at h3 h4
    unfold ordL at h3 h4
    rw [List.append_nil] at h3
    repeat' first|(refine wo ?_; first|(refine ao ?_; first|refine aw ?_|refine aw6 ?_|refine oa ?_|refine adiv ?_|refine amod ?_|refine shr1 ?_|refine shr ?_|refine umod ?_|refine isl ?_|refine ipe ?_|refine ipn ?_|refine ibe ?_)|refine acw ?_|refine ucv ?_|refine anw ?_|refine oa ?_|refine ld ?_|refine ldl ?_|refine lnm ?_|refine ixmn ?_|refine ixm ?_|refine li ?_|refine lv ?_|refine ln ?_|refine ixn ?_|refine ix ?_|refine le ?_|refine sr ?_|refine soi ?_|refine scm ?_|refine sclm ?_|refine schm ?_|refine gy ?_|refine gn ?_|refine gnn ?_|refine gu ?_|(refine gsi (fun hB => ?_) (fun hB => ?_) <;> try (exfalso; omega))|(refine gsn (fun hB => ?_) (fun hB => ?_) <;> try (exfalso; omega))|(refine gs (fun hB => ?_) (fun hB => ?_) <;> try (exfalso; omega)))|(refine gc ?_; first|refine ct ?_|refine cf ?_|(refine ci (fun hB => ?_) (fun hB => ?_) <;> try (exfalso; omega))|(refine cn (fun hB => ?_) (fun hB => ?_) <;> try (exfalso; omega))|(refine cb (fun hB => ?_) (fun hB => ?_) <;> try (exfalso; omega)))|refine sq ?_|refine rg ?_|refine xc ?_|refine nl ?_|refine sk ?_|refine bk ?_|refine xe ?_|refine rt ?_|refine xb ?_
    refine r2 (D := own 3 o (Is outs) :: lotP b r st' (used + ((d.toNat : Nat) : Int)) false) ⟨o, rfl, ?_⟩
    rw [h3, show used + ((d.toNat : Nat) : Int) = used + d by omega, show st' = Fn.2 from h4]
/-- What Pick tells. -/
def pickR (k d : Int) (st : BitVec 64) : List Int × Int := (srt (ordR k d st).1.1, (ordR k d st).1.2)
theorem ordR_len (k d : Int) (st : BitVec 64) : (ordR k d st).1.1.length ≤ 65536 := by
  unfold ordR
  split
  · rename_i h; dsimp only; rw [ordL_len]; unfold Sized at h; omega
  · simp
theorem SPick_tr (b r : Nat) (st : BitVec 64) (used k d : Int) (hu : 0 ≤ used ∧ used ≤ 1152921504606846976) : Tr Try.prog 39 [ptr b, I k, I d] [] (lotP b r st used false)
    fun v D => ∃ o, v = tup2 o (I (pickR k d st).2) ∧ D = own 3 o (Is (pickR k d st).1) :: lotP b r (ordR k d st).2.1 (used + (ordR k d st).2.2) false := by
  have hlen := ordR_len k d st
  refine Tr.enter env _ Try.func39 (by kernel_rfl) rfl Try.ntmps39 rfl (by repeat (first | exact has00 | refine has01 ?_)) fun w0 => ?_
  repeat' first|(refine gca ?_; first|(refine ca (Order_tr b r st used k d hu) ?_; rintro _ _ ⟨o, rfl, rfl⟩; refine TO.one (v := o) (xs := Is (ordR k d st).1.1) fun ho => ?_)|(refine ca (Values_tr _ (by assumption)) ?_; rintro _ _ ⟨c, rfl, rfl⟩))|(refine wo ?_; first|(refine ao ?_; first|refine aw ?_|refine aw6 ?_|refine oa ?_|refine adiv ?_|refine amod ?_|refine shr1 ?_|refine shr ?_|refine umod ?_|refine isl ?_|refine ipe ?_|refine ipn ?_|refine ibe ?_)|refine acw ?_|refine ucv ?_|refine anw ?_|refine oa ?_|refine ld ?_|refine ldl ?_|refine lnm ?_|refine ixmn ?_|refine ixm ?_|refine li ?_|refine lv ?_|refine ln ?_|refine ixn ?_|refine ix ?_|refine le ?_|refine sr ?_|refine soi ?_|refine scm ?_|refine sclm ?_|refine schm ?_|refine gy ?_|refine gn ?_|refine gnn ?_|refine gu ?_|(refine gsi (fun hB => ?_) (fun hB => ?_) <;> try (exfalso; omega))|(refine gsn (fun hB => ?_) (fun hB => ?_) <;> try (exfalso; omega))|(refine gs (fun hB => ?_) (fun hB => ?_) <;> try (exfalso; omega)))|(refine gc ?_; first|refine ct ?_|refine cf ?_|(refine ci (fun hB => ?_) (fun hB => ?_) <;> try (exfalso; omega))|(refine cn (fun hB => ?_) (fun hB => ?_) <;> try (exfalso; omega))|(refine cb (fun hB => ?_) (fun hB => ?_) <;> try (exfalso; omega)))|refine sq ?_|refine rg ?_|refine xc ?_|refine nl ?_|refine sk ?_|refine bk ?_|refine xe ?_|refine rt ?_|refine xb ?_
  refine ca (Sorted_tr (Values1_seq c o (ordR k d st).1.1) (by omega)) ?_
  rintro v _ ⟨zs, rfl, rfl⟩
  repeat' first|(refine wo ?_; first|(refine ao ?_; first|refine aw ?_|refine aw6 ?_|refine oa ?_|refine adiv ?_|refine amod ?_|refine shr1 ?_|refine shr ?_|refine umod ?_|refine isl ?_|refine ipe ?_|refine ipn ?_|refine ibe ?_)|refine acw ?_|refine ucv ?_|refine anw ?_|refine oa ?_|refine ld ?_|refine ldl ?_|refine lnm ?_|refine ixmn ?_|refine ixm ?_|refine li ?_|refine lv ?_|refine ln ?_|refine ixn ?_|refine ix ?_|refine le ?_|refine sr ?_|refine soi ?_|refine scm ?_|refine sclm ?_|refine schm ?_|refine gy ?_|refine gn ?_|refine gnn ?_|refine gu ?_|(refine gsi (fun hB => ?_) (fun hB => ?_) <;> try (exfalso; omega))|(refine gsn (fun hB => ?_) (fun hB => ?_) <;> try (exfalso; omega))|(refine gs (fun hB => ?_) (fun hB => ?_) <;> try (exfalso; omega)))|(refine gc ?_; first|refine ct ?_|refine cf ?_|(refine ci (fun hB => ?_) (fun hB => ?_) <;> try (exfalso; omega))|(refine cn (fun hB => ?_) (fun hB => ?_) <;> try (exfalso; omega))|(refine cb (fun hB => ?_) (fun hB => ?_) <;> try (exfalso; omega)))|refine sq ?_|refine rg ?_|refine xc ?_|refine nl ?_|refine sk ?_|refine bk ?_|refine xe ?_|refine rt ?_|refine xb ?_
  exact r2 ⟨v, rfl, rfl⟩
end Go.Art
