/- Going through a map; sequences, collected and sorted. Conditions: none. -/
import Derived.Test.YthgghnaioddkcaaSrt
set_option linter.unusedSimpArgs false
set_option linter.unusedVariables false
namespace Go.Art
open Go Go.Proofs Go.RowKit
open Go.ChangeMaps (setBlock)

/-- A map that is lent: what it tells; its entries. -/
def lmp (b : Nat) (f : Int → Option Value) : Ch where
  wr := fun _ => False
  rd := fun _ => False
  bd := fun x => x = b
  P := fun w => MapF w b f
  loc := fun {w w'} h hb => by obtain ⟨es, c, h1, h2⟩ := h.ex; exact ⟨es, c, (hb b (.inr (.inr rfl))).trans h1, h2⟩
  lt := fun h hb => by rcases hb with hb | hb | rfl; exact hb.elim; exact hb.elim; exact h.lt
def lme (b : Nat) (es : Array MapEntry) (c : Nat) : Ch where
  wr := fun _ => False
  rd := fun _ => False
  bd := fun x => x = b
  P := fun w => w.heap[b]? = some (.map es c)
  loc := fun h hb => (hb b (.inr (.inr rfl))).trans h
  lt := fun h hb => by rcases hb with hb | hb | rfl; exact hb.elim; exact hb.elim; exact lt_of_heap h
/-- An iterator over a map. -/
def mit (r b since : Nat) (seen : Array Nat) (c : Nat) : Ch where
  wr := fun x => x = r
  rd := fun _ => False
  bd := fun _ => False
  P := fun w => w.heap[r]? = some (.mapIter (some b) since seen c)
  loc := fun h hb => (hb r (.inl rfl)).trans h
  lt := fun h hb => by rcases hb with rfl | hb | hb; exact lt_of_heap h; exact hb.elim; exact hb.elim
instance (b : Nat) (f : Int → Option Value) : Lent (lmp b f) := ⟨fun _ => ⟨fun h => h, fun h => h⟩⟩
instance (b : Nat) (es : Array MapEntry) (c : Nat) : Lent (lme b es c) := ⟨fun _ => ⟨fun h => h, fun h => h⟩⟩
instance (r b since : Nat) (seen : Array Nat) (c : Nat) : NoB (mit r b since seen c) := ⟨fun _ h => h⟩
theorem has_mow {F : List Ch} {T : TypeId} {b : Nat} {G : Int → Option Value} {g : Int → List Int} {o : Option Int} (h : mow T b G g o ∈ F) : Has F (lmp b (ones G)) :=
  ⟨fun w hw => mow_map h w hw, fun _ h => h, fun _ h => h, fun x hx => ⟨_, h, by rcases hx with hx | hx | hx; exact hx.elim; exact hx.elim; exact .inl (.inl hx)⟩⟩
theorem has_lmp {F : List Ch} {b : Nat} {f : Int → Option Value} (h : lmp b f ∈ F) : Has F (lmp b f) := ⟨fun _ hw => hw.h _ h, fun _ h => h, fun _ h => h, fun _ hb => ⟨_, h, hb⟩⟩
theorem has_lent {F : List Ch} {c : Ch} (h : c ∈ F) (hl : ∀ b, ¬ c.wr b ∧ ¬ c.rd b) : Has F c := ⟨fun _ hw => hw.h _ h, fun b => (hl b).1, fun b => (hl b).2, fun _ hb => ⟨_, h, hb⟩⟩

theorem Fit.app (L J : List Ch) : Fit (L ++ J) J L := Im.perm List.perm_append_comm
theorem Fit.comm (L J : List Ch) : Fit (J ++ L) (L ++ J) [] := by unfold Fit; rw [List.append_nil]; exact Im.perm List.perm_append_comm
/-- What goes through integers, one by one, and calls yield. -/
structure SeqC (P : Program) (f : FuncId) (cap : Array Value) (pre : List Ch) (N : Nat) (Done : List Int → Prop) : Prop where
  run : ∀ {α : Type} (l : Nat) (J : α → List Ch) (el : α → List Int) (a0 : α), el a0 = [] → (∀ a, ∀ c ∈ J a, ∀ b, ¬ c.bd b) →
    (∀ a x, (el a).length < N → Ty P l [I x] [] (J a) fun ok B => ok = true ∧ ∃ a', el a' = el a ++ [x] ∧ B = J a') →
    Tr P f (yv l :: cap.toList) pre (J a0) fun _ B => ∃ a, Done (el a) ∧ B = J a
  done : ∀ zs, Done zs → zs.length ≤ N
  lent : ∀ c ∈ pre, ∀ b, ¬ c.wr b ∧ ¬ c.rd b

section
variable {P : Program} {E : Env P} {n : Sh} {X : Cx} {s : List K} {fr : Fr} {A A' B F : List Ch} {ops : Array Oper} {rest : List Oper} {d : Nat} {ty : TypeId} {pos : String} {after : Array Edge} {v z : Value} {t T : TypeId} {x y : Operand} {c0 : Code}
  {b r since : Nat} {f : Int → Option Value} {kt et : TypeId} {es : Array MapEntry} {clock : Nat} {seen : Array Nat}
theorem TC.entries (k : ∀ es clock, Tells es clock f → TC E n X s c0 fr (lme b es clock :: A')) (hm : Tk (lmp b f) A A' := by (repeat (first | apply Tk.here | apply Tk.there)); first | done | fail) : TC E n X s c0 fr A := ⟨fun w hw => by
  have h1 := hw.im hm
  have h2 : MapF w b f := h1.mem (List.Mem.head _)
  obtain ⟨es, clock, h3, h4⟩ := h2.ex
  refine (k es clock h4).run w ⟨?_, ?_⟩
  · obtain ⟨_, h5, h6⟩ := Sat.cons.1 h1.sat
    exact Sat.cons.2 ⟨h3, fun a ha => ⟨fun x hx => hx.elim, fun x hx hf => (h5 a ha).2 x hx hf⟩, h6⟩
  · exact h1.mv.trans ⟨rfl, rfl, rfl, Nat.le_refl _, fun _ _ _ => rfl, fun x ⟨c, hc, hx⟩ => (by
      rcases List.mem_cons.1 hc with rfl | hc
      · exact hx.elim
      · exact .inl ⟨c, List.mem_cons_of_mem _ hc, hx⟩), fun x ⟨c, hc, hx⟩ => (by
      rcases List.mem_cons.1 hc with rfl | hc
      · exact hx.elim
      · exact .inr (.inl ⟨c, List.mem_cons_of_mem _ hc, hx⟩))⟩⟩
theorem rgm (k : ∀ r, TO E n X s ops rest ((d, ptr r) :: fr) (mit r b clock #[] clock :: A)) (hx : ev fr x = some (mp b) := by rfl) (hm : lme b es clock ∈ A := by (repeat (first | apply List.Mem.head | apply List.Mem.tail)); first | done | fail) (ht : lk E.und t = some (.map kt et) := by rfl) (hd : Nat.blt d n.n = true := by rfl) :
    TO E n X s ops (⟨some d, .range t x, ty, pos, after, none⟩ :: rest) fr A := ⟨fun w hw => by
  have hb : w.heap[b]? = some (.map es clock) := hw.mem hm
  refine SO_v hd (w' := w.alloc (.mapIter (some b) clock #[] clock)) ⟨fun a ha _ _ _ _ => ?_⟩ ((k w.heap.size).run _ (hw.new (Upd.alloc w _) (c := mit w.heap.size b clock #[] clock) (heap_alloc_new w _) ?_ (fun _ h => h)))
  · simp only [execOp, ha.ev hx]
    simp [Instr.range, run_underlying (P := P) (E.un ht), MapKept.run_getObj_map hb, newObj, Sem.run]
  · rintro y (rfl | h | h)
    · exact Nat.le_refl _
    · exact h.elim
    · exact h.elim⟩
theorem nxt (k0 : (leftOf es seen).size = 0 → TO E n X s ops rest ((d, .tuple #[.bool false]) :: fr) A) (k1 : ∀ e ∈ (leftOf es seen).toList, TO E n X s ops rest ((d, .tuple #[.bool true, e.key, e.val]) :: fr) (mit r b since (seen.push e.born) clock :: A'))
    (hold : ∀ x ∈ es.toList, x.born < since) (hs : since ≤ clock) (hx : ev fr x = some (ptr r) := by rfl) (hm : Tk (mit r b since seen clock) A A' := by (repeat (first | apply Tk.here | apply Tk.there)); first | done | fail) (hb : lme b es clock ∈ A := by (repeat (first | apply List.Mem.head | apply List.Mem.tail)); first | done | fail) (hd : Nat.blt d n.n = true := by rfl) :
    TO E n X s ops (⟨some d, .next x false, ty, pos, after, none⟩ :: rest) fr A := ⟨fun w hw => by
  have h0 : w.heap[b]? = some (.map es clock) := hw.mem hb
  have h1 := hw.im hm
  have h2 : w.heap[r]? = some (.mapIter (some b) since seen clock) := h1.mem (List.Mem.head _)
  rcases run_next_at (P := P) w ty r b since clock seen es clock h2 h0 hold hs with ⟨h3, h4⟩ | ⟨e, he, w1, hw1, h4⟩
  · refine SO_v hd (w' := w) ⟨fun a ha _ _ _ _ => ?_⟩ ((k0 h3).run w hw)
    simp only [execOp, ha.ev hx]
    simp [h4]
  · have hr1 : w1.heap[r]? = some (.mapIter (some b) since seen clock) := by rcases hw1 with rfl | rfl <;> exact h2
    refine SO_v hd (w' := setBlock w1 r (.mapIter (some b) since (seen.push e.born) clock)) ⟨fun a ha _ _ _ _ => ?_⟩ ((k1 e he).run _ ?_)
    · simp only [execOp, ha.ev hx]
      simp [h4]
    · have hU : Upd w (setBlock w1 r (.mapIter (some b) since (seen.push e.born) clock)) [r] := by
        rcases hw1 with rfl | rfl
        · exact Upd.setO w1 r _
        · exact Upd.then (Upd.drew w) (Upd.setO w.drew r _) (by simp) (by simp)
      exact h1.set (d := mit r b since (seen.push e.born) clock) hU (fun y hy => .inl (List.mem_singleton.1 hy)) (setO_same hr1) (by rintro y (h | h | h); exact .inl h; exact h.elim; exact h.elim) (fun _ h => h)⟩
theorem ent {e : MapEntry} (k : TO E n X s ops rest ((d, .tuple #[e.key, e.val]) :: fr) A) (he : e ∈ es.toList) (hn : (es.toList.map (·.born)).Nodup) (hx : ev fr x = some (ptr r) := by rfl) (hm : mit r b since (seen.push e.born) clock ∈ A := by (repeat (first | apply List.Mem.head | apply List.Mem.tail)); first | done | fail) (hb : lme b es clock ∈ A := by (repeat (first | apply List.Mem.head | apply List.Mem.tail)); first | done | fail) (hd : Nat.blt d n.n = true := by rfl) :
    TO E n X s ops (⟨some d, .entry x, ty, pos, after, none⟩ :: rest) fr A := TO.val (fun w h => ⟨fun a ha _ _ _ _ => by
  have h0 : w.heap[b]? = some (.map es clock) := h.h _ hb
  have h2 : w.heap[r]? = some (.mapIter (some b) since (seen.push e.born) clock) := h.h _ hm
  simp only [execOp, ha.ev hx]
  simp [run_entry_at (P := P) w r b since seen es clock e h2 h0 he hn]⟩) k hd
end
attribute [local irreducible] Fit pt own ro vw mpc lpt vels rels mow lrc dfr
attribute [local irreducible] lmp lme mit

theorem AppendSeq_tr {f : FuncId} {cap : Array Value} {pre : List Ch} {N : Nat} {Done : List Int → Prop} (h : SeqC Try.prog f cap pre N Done) (hN : N ≤ 17592186044416) :
    Tr Try.prog 62 [nS, .func (.func f) #[] cap] pre [] fun v D => ∃ zs, Done zs ∧ D = [own 3 v (Is zs)] := by
  refine Tr.enterM env _ Try.func62 (by kernel_rfl) rfl Try.ntmps62 rfl h.lent fun w0 => ?_
  refine TC.im (own_nil 3 _) ?_
  repeat' first|refine bx1 fun b => ?_|(refine wo ?_; first|(refine ao ?_; first|refine aw ?_|refine aw6 ?_|refine oa ?_|refine adiv ?_|refine amod ?_|refine shr1 ?_|refine shr ?_|refine umod ?_|refine isl ?_|refine ipe ?_|refine ipn ?_|refine ibe ?_)|refine acw ?_|refine ucv ?_|refine anw ?_|refine oa ?_|refine ld ?_|refine ldl ?_|refine lnm ?_|refine ixmn ?_|refine ixm ?_|refine li ?_|refine lv ?_|refine ln ?_|refine ixn ?_|refine ix ?_|refine le ?_|refine sr ?_|refine soi ?_|refine scm ?_|refine sclm ?_|refine schm ?_|refine gy ?_|refine gn ?_|refine gnn ?_|refine gu ?_|(refine gsi (fun hB => ?_) (fun hB => ?_) <;> try (exfalso; omega))|(refine gsn (fun hB => ?_) (fun hB => ?_) <;> try (exfalso; omega))|(refine gs (fun hB => ?_) (fun hB => ?_) <;> try (exfalso; omega)))|(refine gc ?_; first|refine ct ?_|refine cf ?_|(refine ci (fun hB => ?_) (fun hB => ?_) <;> try (exfalso; omega))|(refine cn (fun hB => ?_) (fun hB => ?_) <;> try (exfalso; omega))|(refine cb (fun hB => ?_) (fun hB => ?_) <;> try (exfalso; omega)))|refine sq ?_|refine rg ?_|refine xc ?_|refine nl ?_|refine sk ?_|refine bk ?_|refine xe ?_|refine rt ?_|refine xb ?_
  refine TC.range pre [pt b [nS] 23, own 3 nS (Is [])] (fun l rec Dm pend B' => pend = none ∧ ∃ v zs, Done zs ∧ B' = [dfr Dm, pt b [v] 23, own 3 v (Is zs)]) ?_ ?_ (hp := fun c hc => has_lent (by simp [hc]) (h.lent c hc))
  · intro rec l Dm hr
    refine (h.run (α := Value × List Int) l (fun a => [lrc l rec .ready none, dfr Dm, pt b [a.1] 23, own 3 a.1 (Is a.2)]) (·.2) (nS, []) rfl (fun a => by (repeat (first | exact nb0 | refine nb1 ?_)); first | done | fail) ?_).mono ?_
    · rintro ⟨v, zs⟩ x hx
      dsimp only at hx ⊢
      refine Ty.intro env hr has00 fun w1 => ?_
      refine TC.one (v := v) (xs := Is zs) fun hv => ?_
      repeat' first|refine xbeg ?_|refine slii [x] fun v1 => ?_|(refine wo ?_; first|(refine ao ?_; first|refine aw ?_|refine aw6 ?_|refine oa ?_|refine adiv ?_|refine amod ?_|refine shr1 ?_|refine shr ?_|refine umod ?_|refine isl ?_|refine ipe ?_|refine ipn ?_|refine ibe ?_)|refine acw ?_|refine ucv ?_|refine anw ?_|refine oa ?_|refine ld ?_|refine ldl ?_|refine lnm ?_|refine ixmn ?_|refine ixm ?_|refine li ?_|refine lv ?_|refine ln ?_|refine ixn ?_|refine ix ?_|refine le ?_|refine sr ?_|refine soi ?_|refine scm ?_|refine sclm ?_|refine schm ?_|refine gy ?_|refine gn ?_|refine gnn ?_|refine gu ?_|(refine gsi (fun hB => ?_) (fun hB => ?_) <;> try (exfalso; omega))|(refine gsn (fun hB => ?_) (fun hB => ?_) <;> try (exfalso; omega))|(refine gs (fun hB => ?_) (fun hB => ?_) <;> try (exfalso; omega)))|(refine gc ?_; first|refine ct ?_|refine cf ?_|(refine ci (fun hB => ?_) (fun hB => ?_) <;> try (exfalso; omega))|(refine cn (fun hB => ?_) (fun hB => ?_) <;> try (exfalso; omega))|(refine cb (fun hB => ?_) (fun hB => ?_) <;> try (exfalso; omega)))|refine sq ?_|refine rg ?_|refine xc ?_|refine nl ?_|refine sk ?_|refine bk ?_|refine xe ?_|refine rt ?_|refine xb ?_
      refine api (v := v) (l := zs) (news := [x]) fun v2 => ?_
      refine TO.one (v := v2) (xs := Is (zs ++ [x])) fun hv2 => ?_
      repeat' first|(refine wo ?_; first|(refine ao ?_; first|refine aw ?_|refine aw6 ?_|refine oa ?_|refine adiv ?_|refine amod ?_|refine shr1 ?_|refine shr ?_|refine umod ?_|refine isl ?_|refine ipe ?_|refine ipn ?_|refine ibe ?_)|refine acw ?_|refine ucv ?_|refine anw ?_|refine oa ?_|refine ld ?_|refine ldl ?_|refine lnm ?_|refine ixmn ?_|refine ixm ?_|refine li ?_|refine lv ?_|refine ln ?_|refine ixn ?_|refine ix ?_|refine le ?_|refine sr ?_|refine soi ?_|refine scm ?_|refine sclm ?_|refine schm ?_|refine gy ?_|refine gn ?_|refine gnn ?_|refine gu ?_|(refine gsi (fun hB => ?_) (fun hB => ?_) <;> try (exfalso; omega))|(refine gsn (fun hB => ?_) (fun hB => ?_) <;> try (exfalso; omega))|(refine gs (fun hB => ?_) (fun hB => ?_) <;> try (exfalso; omega)))|(refine gc ?_; first|refine ct ?_|refine cf ?_|(refine ci (fun hB => ?_) (fun hB => ?_) <;> try (exfalso; omega))|(refine cn (fun hB => ?_) (fun hB => ?_) <;> try (exfalso; omega))|(refine cb (fun hB => ?_) (fun hB => ?_) <;> try (exfalso; omega)))|refine sq ?_|refine rg ?_|refine xc ?_|refine nl ?_|refine sk ?_|refine bk ?_|refine xe ?_|refine rt ?_|refine xb ?_
      exact yn ⟨rfl, (v2, zs ++ [x]), rfl, rfl⟩
    · rintro v B ⟨⟨v, zs⟩, hD, rfl⟩
      exact ⟨.ready, none, _, rfl, by decide, rfl, v, zs, hD, rfl⟩
  · rintro l rec Dm pend B' ⟨rfl, v, zs, hD, rfl⟩
    show TX env _ _ _ _ _ _
    repeat' first|(refine wo ?_; first|(refine ao ?_; first|refine aw ?_|refine aw6 ?_|refine oa ?_|refine adiv ?_|refine amod ?_|refine shr1 ?_|refine shr ?_|refine umod ?_|refine isl ?_|refine ipe ?_|refine ipn ?_|refine ibe ?_)|refine acw ?_|refine ucv ?_|refine anw ?_|refine oa ?_|refine ld ?_|refine ldl ?_|refine lnm ?_|refine ixmn ?_|refine ixm ?_|refine li ?_|refine lv ?_|refine ln ?_|refine ixn ?_|refine ix ?_|refine le ?_|refine sr ?_|refine soi ?_|refine scm ?_|refine sclm ?_|refine schm ?_|refine gy ?_|refine gn ?_|refine gnn ?_|refine gu ?_|(refine gsi (fun hB => ?_) (fun hB => ?_) <;> try (exfalso; omega))|(refine gsn (fun hB => ?_) (fun hB => ?_) <;> try (exfalso; omega))|(refine gs (fun hB => ?_) (fun hB => ?_) <;> try (exfalso; omega)))|(refine gc ?_; first|refine ct ?_|refine cf ?_|(refine ci (fun hB => ?_) (fun hB => ?_) <;> try (exfalso; omega))|(refine cn (fun hB => ?_) (fun hB => ?_) <;> try (exfalso; omega))|(refine cb (fun hB => ?_) (fun hB => ?_) <;> try (exfalso; omega)))|refine sq ?_|refine rg ?_|refine xc ?_|refine nl ?_|refine sk ?_|refine bk ?_|refine xe ?_|refine rt ?_|refine xb ?_
    exact m1 ⟨zs, hD, rfl⟩
theorem Sorted_tr {f : FuncId} {cap : Array Value} {pre : List Ch} {N : Nat} {Done : List Int → Prop} (h : SeqC Try.prog f cap pre N Done) (hN : N ≤ 17592186044416) :
    Tr Try.prog 49 [.func (.func f) #[] cap] pre [] fun v D => ∃ zs, Done zs ∧ D = [own 3 v (Is (srt zs))] := by
  have hC : Tr Try.prog 58 [.func (.func f) #[] cap] pre [] fun v D => ∃ zs, Done zs ∧ D = [own 3 v (Is zs)] := by
    refine Tr.enter env _ Try.func58 (by kernel_rfl) rfl Try.ntmps58 rfl h.lent fun w0 => ?_
    repeat' first|(refine wo ?_; first|(refine ao ?_; first|refine aw ?_|refine aw6 ?_|refine oa ?_|refine adiv ?_|refine amod ?_|refine shr1 ?_|refine shr ?_|refine umod ?_|refine isl ?_|refine ipe ?_|refine ipn ?_|refine ibe ?_)|refine acw ?_|refine ucv ?_|refine anw ?_|refine oa ?_|refine ld ?_|refine ldl ?_|refine lnm ?_|refine ixmn ?_|refine ixm ?_|refine li ?_|refine lv ?_|refine ln ?_|refine ixn ?_|refine ix ?_|refine le ?_|refine sr ?_|refine soi ?_|refine scm ?_|refine sclm ?_|refine schm ?_|refine gy ?_|refine gn ?_|refine gnn ?_|refine gu ?_|(refine gsi (fun hB => ?_) (fun hB => ?_) <;> try (exfalso; omega))|(refine gsn (fun hB => ?_) (fun hB => ?_) <;> try (exfalso; omega))|(refine gs (fun hB => ?_) (fun hB => ?_) <;> try (exfalso; omega)))|(refine gc ?_; first|refine ct ?_|refine cf ?_|(refine ci (fun hB => ?_) (fun hB => ?_) <;> try (exfalso; omega))|(refine cn (fun hB => ?_) (fun hB => ?_) <;> try (exfalso; omega))|(refine cb (fun hB => ?_) (fun hB => ?_) <;> try (exfalso; omega)))|refine sq ?_|refine rg ?_|refine xc ?_|refine nl ?_|refine sk ?_|refine bk ?_|refine xe ?_|refine rt ?_|refine xb ?_
    refine ca (AppendSeq_tr h hN) ?_ (hs := Fit.nil) (hp := fun c hc => has_lent (by simp [hc]) (h.lent c hc))
    rintro v _ ⟨zs, hD, rfl⟩
    repeat' first|(refine wo ?_; first|(refine ao ?_; first|refine aw ?_|refine aw6 ?_|refine oa ?_|refine adiv ?_|refine amod ?_|refine shr1 ?_|refine shr ?_|refine umod ?_|refine isl ?_|refine ipe ?_|refine ipn ?_|refine ibe ?_)|refine acw ?_|refine ucv ?_|refine anw ?_|refine oa ?_|refine ld ?_|refine ldl ?_|refine lnm ?_|refine ixmn ?_|refine ixm ?_|refine li ?_|refine lv ?_|refine ln ?_|refine ixn ?_|refine ix ?_|refine le ?_|refine sr ?_|refine soi ?_|refine scm ?_|refine sclm ?_|refine schm ?_|refine gy ?_|refine gn ?_|refine gnn ?_|refine gu ?_|(refine gsi (fun hB => ?_) (fun hB => ?_) <;> try (exfalso; omega))|(refine gsn (fun hB => ?_) (fun hB => ?_) <;> try (exfalso; omega))|(refine gs (fun hB => ?_) (fun hB => ?_) <;> try (exfalso; omega)))|(refine gc ?_; first|refine ct ?_|refine cf ?_|(refine ci (fun hB => ?_) (fun hB => ?_) <;> try (exfalso; omega))|(refine cn (fun hB => ?_) (fun hB => ?_) <;> try (exfalso; omega))|(refine cb (fun hB => ?_) (fun hB => ?_) <;> try (exfalso; omega)))|refine sq ?_|refine rg ?_|refine xc ?_|refine nl ?_|refine sk ?_|refine bk ?_|refine xe ?_|refine rt ?_|refine xb ?_
    exact r1 ⟨zs, hD, rfl⟩
  refine Tr.enter env _ Try.func49 (by kernel_rfl) rfl Try.ntmps49 rfl h.lent fun w0 => ?_
  repeat' first|(refine wo ?_; first|(refine ao ?_; first|refine aw ?_|refine aw6 ?_|refine oa ?_|refine adiv ?_|refine amod ?_|refine shr1 ?_|refine shr ?_|refine umod ?_|refine isl ?_|refine ipe ?_|refine ipn ?_|refine ibe ?_)|refine acw ?_|refine ucv ?_|refine anw ?_|refine oa ?_|refine ld ?_|refine ldl ?_|refine lnm ?_|refine ixmn ?_|refine ixm ?_|refine li ?_|refine lv ?_|refine ln ?_|refine ixn ?_|refine ix ?_|refine le ?_|refine sr ?_|refine soi ?_|refine scm ?_|refine sclm ?_|refine schm ?_|refine gy ?_|refine gn ?_|refine gnn ?_|refine gu ?_|(refine gsi (fun hB => ?_) (fun hB => ?_) <;> try (exfalso; omega))|(refine gsn (fun hB => ?_) (fun hB => ?_) <;> try (exfalso; omega))|(refine gs (fun hB => ?_) (fun hB => ?_) <;> try (exfalso; omega)))|(refine gc ?_; first|refine ct ?_|refine cf ?_|(refine ci (fun hB => ?_) (fun hB => ?_) <;> try (exfalso; omega))|(refine cn (fun hB => ?_) (fun hB => ?_) <;> try (exfalso; omega))|(refine cb (fun hB => ?_) (fun hB => ?_) <;> try (exfalso; omega)))|refine sq ?_|refine rg ?_|refine xc ?_|refine nl ?_|refine sk ?_|refine bk ?_|refine xe ?_|refine rt ?_|refine xb ?_
  refine ca hC ?_ (hs := Fit.nil) (hp := fun c hc => has_lent (by simp [hc]) (h.lent c hc))
  rintro v _ ⟨zs, hD, rfl⟩
  have hl := h.done zs hD
  repeat' first|(refine wo ?_; first|(refine ao ?_; first|refine aw ?_|refine aw6 ?_|refine oa ?_|refine adiv ?_|refine amod ?_|refine shr1 ?_|refine shr ?_|refine umod ?_|refine isl ?_|refine ipe ?_|refine ipn ?_|refine ibe ?_)|refine acw ?_|refine ucv ?_|refine anw ?_|refine oa ?_|refine ld ?_|refine ldl ?_|refine lnm ?_|refine ixmn ?_|refine ixm ?_|refine li ?_|refine lv ?_|refine ln ?_|refine ixn ?_|refine ix ?_|refine le ?_|refine sr ?_|refine soi ?_|refine scm ?_|refine sclm ?_|refine schm ?_|refine gy ?_|refine gn ?_|refine gnn ?_|refine gu ?_|(refine gsi (fun hB => ?_) (fun hB => ?_) <;> try (exfalso; omega))|(refine gsn (fun hB => ?_) (fun hB => ?_) <;> try (exfalso; omega))|(refine gs (fun hB => ?_) (fun hB => ?_) <;> try (exfalso; omega)))|(refine gc ?_; first|refine ct ?_|refine cf ?_|(refine ci (fun hB => ?_) (fun hB => ?_) <;> try (exfalso; omega))|(refine cn (fun hB => ?_) (fun hB => ?_) <;> try (exfalso; omega))|(refine cb (fun hB => ?_) (fun hB => ?_) <;> try (exfalso; omega)))|refine sq ?_|refine rg ?_|refine xc ?_|refine nl ?_|refine sk ?_|refine bk ?_|refine xe ?_|refine rt ?_|refine xb ?_
  refine ca (Sort_tr v zs (by omega)) ?_
  rintro _ _ ⟨rfl, rfl⟩
  repeat' first|(refine wo ?_; first|(refine ao ?_; first|refine aw ?_|refine aw6 ?_|refine oa ?_|refine adiv ?_|refine amod ?_|refine shr1 ?_|refine shr ?_|refine umod ?_|refine isl ?_|refine ipe ?_|refine ipn ?_|refine ibe ?_)|refine acw ?_|refine ucv ?_|refine anw ?_|refine oa ?_|refine ld ?_|refine ldl ?_|refine lnm ?_|refine ixmn ?_|refine ixm ?_|refine li ?_|refine lv ?_|refine ln ?_|refine ixn ?_|refine ix ?_|refine le ?_|refine sr ?_|refine soi ?_|refine scm ?_|refine sclm ?_|refine schm ?_|refine gy ?_|refine gn ?_|refine gnn ?_|refine gu ?_|(refine gsi (fun hB => ?_) (fun hB => ?_) <;> try (exfalso; omega))|(refine gsn (fun hB => ?_) (fun hB => ?_) <;> try (exfalso; omega))|(refine gs (fun hB => ?_) (fun hB => ?_) <;> try (exfalso; omega)))|(refine gc ?_; first|refine ct ?_|refine cf ?_|(refine ci (fun hB => ?_) (fun hB => ?_) <;> try (exfalso; omega))|(refine cn (fun hB => ?_) (fun hB => ?_) <;> try (exfalso; omega))|(refine cb (fun hB => ?_) (fun hB => ?_) <;> try (exfalso; omega)))|refine sq ?_|refine rg ?_|refine xc ?_|refine nl ?_|refine sk ?_|refine bk ?_|refine xe ?_|refine rt ?_|refine xb ?_
  exact r1 ⟨zs, hD, rfl⟩
end Go.Art
