/- Memory in pieces: what a piece owns, what it reads, what is said of it; the judgements over pieces, without a world in sight. Conditions: none. -/
import Derived.Test.YthgghnaioddkcaaAny
import Derived.Test.YthgghnaioddkcaaMap
set_option linter.unusedSimpArgs false
set_option linter.unusedVariables false
namespace Go.Art
open Go Go.RowKit

/-- A piece of memory: its own blocks, those that it reads and may pass on, those that are lent to it; what is said of them. -/
structure Ch where
  wr : Nat → Prop
  rd : Nat → Prop
  bd : Nat → Prop
  P : World → Prop
  loc : ∀ {w w' : World}, P w → (∀ b, wr b ∨ rd b ∨ bd b → w'.heap[b]? = w.heap[b]?) → P w'
  lt : ∀ {w : World} {b : Nat}, P w → wr b ∨ rd b ∨ bd b → b < w.heap.size
def Ch.ft (c : Ch) (b : Nat) : Prop := c.wr b ∨ c.rd b ∨ c.bd b
def Ap (c d : Ch) : Prop := (∀ b, c.wr b → ¬ d.ft b) ∧ ∀ b, d.wr b → ¬ c.ft b
theorem Ap.symm {c d : Ch} (h : Ap c d) : Ap d c := ⟨h.2, h.1⟩
theorem Ap.of {c d : Ch} (hc : ∀ b, ¬ c.wr b) (hd : ∀ b, d.wr b → ¬ c.ft b) : Ap c d := ⟨fun b h => absurd h (hc b), hd⟩
structure Sat (A : List Ch) (w : World) : Prop where
  ap : A.Pairwise Ap
  h : ∀ c ∈ A, c.P w
def wrs (A : List Ch) (b : Nat) : Prop := ∃ c ∈ A, c.wr b
def rds (A : List Ch) (b : Nat) : Prop := ∃ c ∈ A, c.rd b
def fts (A : List Ch) (b : Nat) : Prop := ∃ c ∈ A, c.ft b
theorem wrs.ft {A : List Ch} {b : Nat} (h : wrs A b) : fts A b := by obtain ⟨c, hc, h⟩ := h; exact ⟨c, hc, .inl h⟩
theorem rds.ft {A : List Ch} {b : Nat} (h : rds A b) : fts A b := by obtain ⟨c, hc, h⟩ := h; exact ⟨c, hc, .inr (.inl h)⟩
theorem wrs_nil {b : Nat} : ¬ wrs [] b := by rintro ⟨c, hc, _⟩; cases hc
theorem rds_nil {b : Nat} : ¬ rds [] b := by rintro ⟨c, hc, _⟩; cases hc
theorem wrs_app {A B : List Ch} {b : Nat} : wrs (A ++ B) b ↔ wrs A b ∨ wrs B b := by
  simp only [wrs, List.mem_append]; constructor
  · rintro ⟨c, hc | hc, h⟩; exact .inl ⟨c, hc, h⟩; exact .inr ⟨c, hc, h⟩
  · rintro (⟨c, hc, h⟩ | ⟨c, hc, h⟩); exact ⟨c, .inl hc, h⟩; exact ⟨c, .inr hc, h⟩
theorem rds_app {A B : List Ch} {b : Nat} : rds (A ++ B) b ↔ rds A b ∨ rds B b := by
  simp only [rds, List.mem_append]; constructor
  · rintro ⟨c, hc | hc, h⟩; exact .inl ⟨c, hc, h⟩; exact .inr ⟨c, hc, h⟩
  · rintro (⟨c, hc, h⟩ | ⟨c, hc, h⟩); exact ⟨c, .inl hc, h⟩; exact ⟨c, .inr hc, h⟩
theorem fts_app {A B : List Ch} {b : Nat} : fts (A ++ B) b ↔ fts A b ∨ fts B b := by
  simp only [fts, List.mem_append]; constructor
  · rintro ⟨c, hc | hc, h⟩; exact .inl ⟨c, hc, h⟩; exact .inr ⟨c, hc, h⟩
  · rintro (⟨c, hc, h⟩ | ⟨c, hc, h⟩); exact ⟨c, .inl hc, h⟩; exact ⟨c, .inr hc, h⟩
theorem wrs_one {c : Ch} {b : Nat} : wrs [c] b ↔ c.wr b := by simp [wrs]
theorem rds_one {c : Ch} {b : Nat} : rds [c] b ↔ c.rd b := by simp [rds]
theorem fts_one {c : Ch} {b : Nat} : fts [c] b ↔ c.ft b := by simp [fts]

theorem Sat.nil (w : World) : Sat [] w := ⟨.nil, by simp⟩
theorem Sat.perm {A B : List Ch} {w : World} (h : Sat A w) (p : A.Perm B) : Sat B w := ⟨(p.pairwise_iff Ap.symm).1 h.ap, fun c hc => h.h c (p.mem_iff.2 hc)⟩
theorem Sat.app {A B : List Ch} {w : World} : Sat (A ++ B) w ↔ Sat A w ∧ Sat B w ∧ ∀ a ∈ A, ∀ b ∈ B, Ap a b := by
  constructor
  · intro h
    obtain ⟨h1, h2, h3⟩ := List.pairwise_append.1 h.ap
    exact ⟨⟨h1, fun c hc => h.h c (by simp [hc])⟩, ⟨h2, fun c hc => h.h c (by simp [hc])⟩, h3⟩
  · rintro ⟨h1, h2, h3⟩
    exact ⟨List.pairwise_append.2 ⟨h1.ap, h2.ap, h3⟩, fun c hc => by rcases List.mem_append.1 hc with h | h; exact h1.h c h; exact h2.h c h⟩
theorem Sat.cons {c : Ch} {A : List Ch} {w : World} : Sat (c :: A) w ↔ c.P w ∧ (∀ a ∈ A, Ap c a) ∧ Sat A w := by
  constructor
  · intro h
    obtain ⟨h1, h2⟩ := List.pairwise_cons.1 h.ap
    exact ⟨h.h c (by simp), h1, h2, fun d hd => h.h d (by simp [hd])⟩
  · rintro ⟨h1, h2, h3⟩
    exact ⟨List.pairwise_cons.2 ⟨h2, h3.ap⟩, fun d hd => by rcases List.mem_cons.1 hd with rfl | h; exact h1; exact h3.h d h⟩
theorem Sat.one {c : Ch} {w : World} (h : c.P w) : Sat [c] w := Sat.cons.2 ⟨h, by simp, Sat.nil w⟩
theorem Sat.lt {A : List Ch} {w : World} (h : Sat A w) {b : Nat} (hb : fts A b) : b < w.heap.size := by
  obtain ⟨c, hc, hb⟩ := hb; exact c.lt (h.h c hc) hb
theorem ap_fts {A F : List Ch} (h : ∀ a ∈ A, ∀ f ∈ F, Ap a f) {b : Nat} (ha : wrs A b) (hf : fts F b) : False := by
  obtain ⟨a, ha, hab⟩ := ha; obtain ⟨f, hf, hfb⟩ := hf; exact (h a ha f hf).1 b hab hfb
theorem ap_stf {A F : List Ch} (h : ∀ a ∈ A, ∀ f ∈ F, Ap a f) {b : Nat} (ha : fts A b) (hf : wrs F b) : False := by
  obtain ⟨a, ha, hab⟩ := ha; obtain ⟨f, hf, hfb⟩ := hf; exact (h a ha f hf).2 b hfb hab

/-- From w, with the pieces A, to w', with the pieces B. -/
structure Mv (w : World) (A : List Ch) (w' : World) (B : List Ch) : Prop where
  os : w'.os = w.os
  tape : w'.tape = w.tape
  output : w'.output = w.output
  size : w.heap.size ≤ w'.heap.size
  block : ∀ k, k < w.heap.size → ¬ wrs A k → w'.heap[k]? = w.heap[k]?
  wr : ∀ b, wrs B b → wrs A b ∨ w.heap.size ≤ b
  rd : ∀ b, rds B b → wrs A b ∨ rds A b ∨ w.heap.size ≤ b
theorem Mv.refl (w : World) (A : List Ch) : Mv w A w A := ⟨rfl, rfl, rfl, Nat.le_refl _, fun _ _ _ => rfl, fun _ h => .inl h, fun _ h => .inr (.inl h)⟩
theorem Mv.trans {w0 w w' : World} {A0 A B : List Ch} (h : Mv w0 A0 w A) (k : Mv w A w' B) : Mv w0 A0 w' B where
  os := k.os.trans h.os
  tape := k.tape.trans h.tape
  output := k.output.trans h.output
  size := Nat.le_trans h.size k.size
  block := fun i hi hn => (k.block i (Nat.lt_of_lt_of_le hi h.size) (fun hw => by rcases h.wr i hw with h1 | h1; exact hn h1; omega)).trans (h.block i hi hn)
  wr := fun b hb => by
    rcases k.wr b hb with h1 | h1
    · exact h.wr b h1
    · have := h.size; exact .inr (by omega)
  rd := fun b hb => by
    have := h.size
    rcases k.rd b hb with h1 | h1 | h1
    · rcases h.wr b h1 with h2 | h2; exact .inl h2; exact .inr (.inr h2)
    · exact h.rd b h1
    · exact .inr (.inr (by omega))
theorem Mv.upd {w w' : World} {S : List Nat} {A B : List Ch} (u : Upd w w' S) (hS : ∀ b ∈ S, wrs A b ∨ w.heap.size ≤ b) (h1 : ∀ b, wrs B b → wrs A b ∨ w.heap.size ≤ b) (h2 : ∀ b, rds B b → wrs A b ∨ rds A b ∨ w.heap.size ≤ b) : Mv w A w' B :=
  ⟨u.os, u.tape, u.output, u.size, fun k hk hn => u.block k hk (fun hm => by rcases hS k hm with h | h; exact hn h; omega), h1, h2⟩
theorem Mv.frame {w w' : World} {A B F : List Ch} (h : Mv w A w' B) (hs : Sat (A ++ F) w) (hb : Sat B w') (nb : ∀ c ∈ B, ∀ b, ¬ c.bd b) : Sat (B ++ F) w' ∧ Mv w (A ++ F) w' (B ++ F) := by
  obtain ⟨hA, hF, hAF⟩ := Sat.app.1 hs
  have hB : ∀ {b}, fts B b → wrs B b ∨ rds B b := by
    rintro b ⟨c, hc, h1 | h1 | h1⟩
    · exact .inl ⟨c, hc, h1⟩
    · exact .inr ⟨c, hc, h1⟩
    · exact absurd h1 (nb c hc b)
  have hw : ∀ {b}, wrs B b → fts F b → False := fun h1 h2 => by
    rcases h.wr _ h1 with h3 | h3
    · exact ap_fts hAF h3 h2
    · have := hF.lt h2; omega
  have hf : ∀ {b}, fts B b → wrs F b → False := fun h1 h2 => by
    rcases hB h1 with h3 | h3
    · exact hw h3 h2.ft
    · rcases h.rd _ h3 with h4 | h4 | h4
      · exact ap_fts hAF h4 h2.ft
      · exact ap_stf hAF h4.ft h2
      · have := hF.lt h2.ft; omega
  refine ⟨Sat.app.2 ⟨hb, ⟨hF.ap, fun c hc => c.loc (hF.h c hc) fun b hcb => h.block b (c.lt (hF.h c hc) hcb) fun hwr => ap_fts hAF hwr ⟨c, hc, hcb⟩⟩, fun a ha f hf' => ⟨fun b h1 h2 => hw ⟨a, ha, h1⟩ ⟨f, hf', h2⟩, fun b h1 h2 => hf ⟨a, ha, h2⟩ ⟨f, hf', h1⟩⟩⟩, h.os, h.tape, h.output, h.size, fun k hk hn => h.block k hk (fun h1 => hn (wrs_app.2 (.inl h1))), ?_, ?_⟩
  · intro b hb'
    rcases wrs_app.1 hb' with h1 | h1
    · rcases h.wr b h1 with h2 | h2; exact .inl (wrs_app.2 (.inl h2)); exact .inr h2
    · exact .inl (wrs_app.2 (.inr h1))
  · intro b hb'
    rcases rds_app.1 hb' with h1 | h1
    · rcases h.rd b h1 with h2 | h2 | h2
      · exact .inl (wrs_app.2 (.inl h2))
      · exact .inr (.inl (rds_app.2 (.inl h2)))
      · exact .inr (.inr h2)
    · exact .inr (.inl (rds_app.2 (.inr h1)))
theorem Mv.ext {w w' : World} {A : List Ch} (h : Mv w A w' []) (hA : ∀ b, ¬ wrs A b) : Ext w w' := ⟨h.os, h.tape, h.output, h.size, fun k hk _ => h.block k hk (hA k)⟩
theorem Mv.of_ext {w w' : World} (u : Ext w w') (A : List Ch) : Mv w A w' A := Mv.upd u (by simp) (fun _ h => .inl h) (fun _ h => .inr (.inl h))

/-- The pieces A may be taken for B. -/
structure Im (A B : List Ch) : Prop where
  sat : ∀ w, Sat A w → Sat B w
  wr : ∀ b, wrs B b → wrs A b
  rd : ∀ b, rds B b → wrs A b ∨ rds A b
  ft : ∀ b, fts B b → fts A b
theorem Im.refl (A : List Ch) : Im A A := ⟨fun _ h => h, fun _ h => h, fun _ h => .inr h, fun _ h => h⟩
theorem Im.trans {A B D : List Ch} (h : Im A B) (k : Im B D) : Im A D := ⟨fun w hw => k.sat w (h.sat w hw), fun b hb => h.wr b (k.wr b hb), fun b hb => by
  rcases k.rd b hb with h1 | h1; exact .inl (h.wr b h1); exact h.rd b h1, fun b hb => h.ft b (k.ft b hb)⟩
theorem Im.perm {A B : List Ch} (p : A.Perm B) : Im A B := ⟨fun _ h => h.perm p, fun _ ⟨c, hc, h⟩ => ⟨c, p.mem_iff.2 hc, h⟩, fun _ ⟨c, hc, h⟩ => .inr ⟨c, p.mem_iff.2 hc, h⟩, fun _ ⟨c, hc, h⟩ => ⟨c, p.mem_iff.2 hc, h⟩⟩
theorem Im.cons (c : Ch) {A B : List Ch} (h : Im A B) : Im (c :: A) (c :: B) := by
  refine ⟨fun w hw => ?_, fun b hb => ?_, fun b hb => ?_, fun b hb => ?_⟩
  · obtain ⟨h1, h2, h3⟩ := Sat.cons.1 hw
    refine Sat.cons.2 ⟨h1, fun x hx => ⟨fun b hb hf => ?_, fun b hb hf => ?_⟩, h.sat w h3⟩
    · obtain ⟨a, ha, haf⟩ := h.ft b ⟨x, hx, hf⟩
      exact (h2 a ha).1 b hb haf
    · obtain ⟨a, ha, haf⟩ := h.wr b ⟨x, hx, hb⟩
      exact (h2 a ha).2 b haf hf
  · obtain ⟨x, hx, hb⟩ := hb
    rcases List.mem_cons.1 hx with rfl | hx
    · exact ⟨x, by simp, hb⟩
    · obtain ⟨a, ha, hab⟩ := h.wr b ⟨x, hx, hb⟩; exact ⟨a, by simp [ha], hab⟩
  · obtain ⟨x, hx, hb⟩ := hb
    rcases List.mem_cons.1 hx with rfl | hx
    · exact .inr ⟨x, by simp, hb⟩
    · rcases h.rd b ⟨x, hx, hb⟩ with ⟨a, ha, hab⟩ | ⟨a, ha, hab⟩
      · exact .inl ⟨a, by simp [ha], hab⟩
      · exact .inr ⟨a, by simp [ha], hab⟩
  · obtain ⟨x, hx, hb⟩ := hb
    rcases List.mem_cons.1 hx with rfl | hx
    · exact ⟨x, by simp, hb⟩
    · obtain ⟨a, ha, hab⟩ := h.ft b ⟨x, hx, hb⟩; exact ⟨a, by simp [ha], hab⟩
theorem Im.app {A A' : List Ch} (h : Im A A') : ∀ (F : List Ch), Im (F ++ A) (F ++ A')
  | [] => h
  | f :: F => (Im.app h F).cons f
theorem Im.drop (B F : List Ch) : Im (B ++ F) B := ⟨fun _ h => (Sat.app.1 h).1, fun _ h => wrs_app.2 (.inl h), fun _ h => .inr (rds_app.2 (.inl h)), fun _ h => fts_app.2 (.inl h)⟩
/-- One piece taken out. -/
abbrev Tk (c : Ch) (A A' : List Ch) : Prop := Im A (c :: A')
theorem Tk.here {c : Ch} {A : List Ch} : Tk c (c :: A) A := Im.refl _
theorem Tk.there {c d : Ch} {A A' : List Ch} (h : Tk c A A') : Tk c (d :: A) (d :: A') := Im.trans (Im.cons d h) (Im.perm (List.Perm.swap _ _ _))
/-- A piece that owns nothing may stand twice. -/
theorem Tk.dup {c : Ch} {A : List Ch} (hc : c ∈ A) (hz : ∀ b, ¬ c.wr b) : Tk c A A := by
  refine ⟨fun w hw => Sat.cons.2 ⟨hw.h c hc, fun a ha => ?_, hw⟩, fun b hb => ?_, fun b hb => ?_, fun b hb => ?_⟩
  · refine Ap.of hz fun b hab hcb => ?_
    by_cases hac : a = c
    · subst hac; exact hz b hab
    · obtain ⟨i, hi, rfl⟩ := List.mem_iff_getElem.1 ha
      obtain ⟨j, hj, rfl⟩ := List.mem_iff_getElem.1 hc
      have hp := List.pairwise_iff_getElem.1 hw.ap
      rcases Nat.lt_trichotomy i j with h | h | h
      · exact (hp i j hi hj h).1 b hab hcb
      · exact hac (by subst h; rfl)
      · exact (hp j i hj hi h).2 b hab hcb
  · obtain ⟨x, hx, hb⟩ := hb
    rcases List.mem_cons.1 hx with rfl | hx
    · exact ⟨x, hc, hb⟩
    · exact ⟨x, hx, hb⟩
  · obtain ⟨x, hx, hb⟩ := hb
    rcases List.mem_cons.1 hx with rfl | hx
    · exact .inr ⟨x, hc, hb⟩
    · exact .inr ⟨x, hx, hb⟩
  · obtain ⟨x, hx, hb⟩ := hb
    rcases List.mem_cons.1 hx with rfl | hx
    · exact ⟨x, hc, hb⟩
    · exact ⟨x, hx, hb⟩
/-- A piece seen as another one. -/
structure Im1 (c d : Ch) : Prop where
  P : ∀ w, c.P w → d.P w
  wr : ∀ b, d.wr b → c.wr b
  rd : ∀ b, d.rd b → c.wr b ∨ c.rd b
  ft : ∀ b, d.ft b → c.ft b
theorem Im1.im {c d : Ch} (h : Im1 c d) (A : List Ch) : Im (c :: A) (d :: A) := by
  refine ⟨fun w hw => ?_, fun b hb => ?_, fun b hb => ?_, fun b hb => ?_⟩
  · obtain ⟨h1, h2, h3⟩ := Sat.cons.1 hw
    exact Sat.cons.2 ⟨h.P w h1, fun a ha => ⟨fun b hb => (h2 a ha).1 b (h.wr b hb), fun b hb hf => (h2 a ha).2 b hb (h.ft b hf)⟩, h3⟩
  · obtain ⟨x, hx, hb⟩ := hb
    rcases List.mem_cons.1 hx with rfl | hx
    · exact ⟨c, by simp, h.wr b hb⟩
    · exact ⟨x, by simp [hx], hb⟩
  · obtain ⟨x, hx, hb⟩ := hb
    rcases List.mem_cons.1 hx with rfl | hx
    · rcases h.rd b hb with h1 | h1; exact .inl ⟨c, by simp, h1⟩; exact .inr ⟨c, by simp, h1⟩
    · exact .inr ⟨x, by simp [hx], hb⟩
  · obtain ⟨x, hx, hb⟩ := hb
    rcases List.mem_cons.1 hx with rfl | hx
    · exact ⟨c, by simp, h.ft b hb⟩
    · exact ⟨x, by simp [hx], hb⟩
/-- The pieces B, taken out of A; F stays. -/
def Fit (A B F : List Ch) : Prop := Im A (B ++ F)
theorem Fit.nil {A : List Ch} : Fit A [] A := Im.refl _
theorem Fit.nilN {A A' : List Ch} (h : A = A') : Fit A [] A' := by subst h; exact Fit.nil
theorem nrm_nil : ([] : List Ch) = [] := rfl
theorem nrm_cons {d : Ch} {A A' : List Ch} (h : A = A') : d :: A = d :: A' := by rw [h]
theorem nrm_rfl {A : List Ch} : A = A := rfl
theorem Fit.all {A : List Ch} : Fit A A [] := by unfold Fit; rw [List.append_nil]; exact Im.refl _
theorem Fit.cons {c : Ch} {A A' B F : List Ch} (h : Tk c A A') (k : Fit A' B F) : Fit A (c :: B) F := Im.trans h (Im.cons c k)
/-- What may be lent. -/
structure Has (F : List Ch) (c : Ch) : Prop where
  P : ∀ w, Sat F w → c.P w
  wr : ∀ b, ¬ c.wr b
  rd : ∀ b, ¬ c.rd b
  ft : ∀ b, c.ft b → fts F b
theorem lend {pre A F : List Ch} {w : World} (h : Sat (A ++ F) w) (hp : ∀ c ∈ pre, Has F c) : Sat (pre ++ A) w := by
  obtain ⟨hA, hF, hAF⟩ := Sat.app.1 h
  refine Sat.app.2 ⟨⟨List.pairwise_of_forall_mem_list fun c hc d hd => Ap.of (hp c hc).wr fun b hb => absurd hb ((hp d hd).wr b), fun c hc => (hp c hc).P w hF⟩, hA, fun c hc a ha => Ap.of (hp c hc).wr fun b hb hcb => ?_⟩
  obtain ⟨f, hf, hfb⟩ := (hp c hc).ft b hcb
  exact (hAF a ha f hf).1 b hb hfb

/-! ### A slice that owns its cells, wherever in their block it begins -/
def OwnO (w : World) (e : TypeId) (v : Value) (xs : List Value) : Prop :=
  (v = .slice none 0 0 ∧ xs = []) ∨
  ∃ b o cap cur, v = .slice (some ⟨b, o, none⟩) xs.length cap ∧ w.heap[b]? = some (.cells cur e (0, 0)) ∧ xs.length ≤ cap ∧ cap ≤ maxLen ∧ o + cap ≤ cur.size ∧ (cur.toList.drop o).take xs.length = xs
theorem OwnO.of {w : World} {e : TypeId} {g : Option Nat} {v : Value} {xs : List Value} (h : Own w e g v xs) : OwnO w e v xs := by
  rcases h with ⟨_, h1, h2⟩ | ⟨b, cap, cur, _, h1, h2, h3, h4, h5, h6⟩
  · exact .inl ⟨h1, h2⟩
  · exact .inr ⟨b, 0, cap, cur, h1, h2, h3, h4, by omega, by simpa using h6⟩
theorem OwnO.sl {w : World} {e : TypeId} {v : Value} {xs : List Value} (h : OwnO w e v xs) : Sl w v xs := by
  rcases h with ⟨rfl, rfl⟩ | ⟨b, o, cap, cur, rfl, hb, h1, h2, h3, h4⟩
  · exact Sl.nil w
  · refine ⟨_, cap, rfl, h1, h2, fun i u hi => ⟨_, rfl, ?_⟩⟩
    rw [Addr.add_lit, cell_of_row w b (o + i) cur e (0, 0) hb]
    rw [← h4, List.getElem?_take] at hi
    split at hi
    · rw [List.getElem?_drop] at hi; simpa using hi
    · cases hi
theorem OwnO.blt {w : World} {e : TypeId} {v : Value} {xs : List Value} (h : OwnO w e v xs) {b : Nat} (hb : v.ownBlock = some b) : b < w.heap.size := by
  rcases h with ⟨rfl, rfl⟩ | ⟨b', o, cap, cur, rfl, h2, _⟩
  · cases hb
  · cases hb; exact lt_of_heap h2
theorem OwnO.keep {w w' : World} {e : TypeId} {v : Value} {xs : List Value} (h : OwnO w e v xs) (hb : ∀ b, v.ownBlock = some b → w'.heap[b]? = w.heap[b]?) : OwnO w' e v xs := by
  rcases h with h | ⟨b, o, cap, cur, rfl, h2, h3⟩
  · exact .inl h
  · exact .inr ⟨b, o, cap, cur, rfl, (hb b rfl).trans h2, h3⟩
theorem OwnO.sub {w : World} {e : TypeId} {v : Value} {xs : List Value} (h : OwnO w e v xs) {lo hi : Nat} (h1 : lo ≤ hi) (h2 : hi ≤ xs.length) : OwnO w e (slSub v lo hi) ((xs.take hi).drop lo) := by
  have hl : ((xs.take hi).drop lo).length = hi - lo := by simp; omega
  rcases h with ⟨rfl, rfl⟩ | ⟨b, o, cap, cur, rfl, hb, h3, h4, h5, h6⟩
  · simp at h2; subst h2; obtain rfl : lo = 0 := by omega
    exact .inl ⟨rfl, rfl⟩
  · refine .inr ⟨b, if cap = lo then o else o + lo, cap - lo, cur, ?_, hb, by rw [hl]; omega, by omega, by split <;> omega, ?_⟩
    · rw [hl]; simp only [slSub]; split
      · rfl
      · simp [Addr.add_lit]
    · rw [hl]
      by_cases e : hi - lo = 0
      · rw [e, List.take_zero]; symm; apply List.eq_nil_of_length_eq_zero; omega
      · rw [if_neg (by omega), ← List.drop_drop]
        conv => rhs; rw [← h6]
        rw [List.take_take, Nat.min_eq_left h2, List.drop_take]
section
variable {P : Program} {E : Env P} {n : Sh} {Q0 : Exit → Act → World → Prop} {s : List K} {fr : Fr} {w : World} {ops : Array Oper} {rest : List Oper} {d : Nat} {ty t e : TypeId} {pos : String} {after : Array Edge} {v u z : Value} {x y : Operand} {by_ : Nat}
theorem run_append_roomO (w : World) (t ty e : TypeId) (i : TypeInfo) (ht : P.underlying t = some (.slice e)) (hi : P.info? e = some i)
    (g o sLen sCap : Nat) (cur : Array Value) (hg : w.heap[g]? = some (.cells cur e (0, 0)))
    (a : Addr) (m c : Nat) (news : List Value) (hl : news.length = m * i.size) (hnews : ∀ j u, news[j]? = some u → w.cell? (a.add j) = some u) (h1 : ∀ u ∈ news, u.oneCell' = true)
    (hroom : sLen + m ≤ sCap) (hfit : o + sLen * i.size + news.length ≤ cur.size) :
    (Builtin.append_ #[t, t] ty #[.slice (some ⟨g, o, none⟩) sLen sCap, .slice (some a) m c]).run P w =
      .ok (.slice (some ⟨g, o, none⟩) (sLen + m) sCap) (w.setRow g (cur.toList.take (o + sLen * i.size) ++ news ++ cur.toList.drop (o + sLen * i.size + news.length)).toArray) := by
  have hf := run_firstCells_some (P := P) w i.size m a m c news hl hnews
  have hst := run_storeCells_at P g (o + sLen * i.size) e news 0 cur w hg (by simpa using hfit) h1
  simp only [Nat.add_zero] at hst
  simp [Builtin.append_, run_underlying ht, sizeOf, typeInfo, hi, Builtin.lenOf, hroom, hf, Addr.add_lit, hst]
theorem run_appendO (t' : TypeId) (w : World) (ht : lk E.und t = some (.slice e)) (he : lk E.inf e = some (z, 1, by_)) (hz : z.cells.size = 1) {xs news : List Value} (hown : OwnO w e v xs) (hu : Sl w u news)
    (h1 : ∀ c ∈ news, c.oneCell' = true) (hby : (xs.length + news.length) * by_ ≤ 140737488355328) (h63 : xs.length + news.length ≤ 9223372036854775807) :
    ∃ v' w', (Builtin.append_ #[t, t] t' #[v, u]).run P w = .ok v' w' ∧ OwnO w' e v' (xs ++ news) ∧ Upd w w' v.ownBlock.toList ∧ ∀ b, v'.ownBlock = some b → v.ownBlock = some b ∨ w.heap.size ≤ b := by
  obtain ⟨inf, hi, hiz, his, hib⟩ := E.info he
  have ht' := E.un ht
  have hsl := hown.sl
  obtain ⟨a, cu, rfl, hn1, hn2, hcell⟩ := hu
  by_cases h0 : news = []
  · subst h0
    refine ⟨v, w, ?_, by simpa using hown, Upd.refl _ _, fun _ h => .inl h⟩
    rcases hown with ⟨rfl, rfl⟩ | ⟨b, o, cap, cur, rfl, hb, h2, h3, h4, h5⟩
    · exact run_append_zero t' w ht' hi (Nat.le_refl _)
    · exact run_append_zero t' w ht' hi h2
  · have hpos : 0 < news.length := by cases news with | nil => exact absurd rfl h0 | cons => simp
    obtain ⟨ad, rfl, _⟩ := hcell 0 news[0] (List.getElem?_eq_getElem hpos)
    have hnews : ∀ j c, news[j]? = some c → w.cell? (ad.add j) = some c := fun j c hj => by
      obtain ⟨y, hy, hc⟩ := hcell j c hj
      cases hy; exact hc
    have hl : news.length = news.length * inf.size := by rw [his, Nat.mul_one]
    subst hib
    have hml : ∀ need old, need ≤ 9223372036854775807 → grownCap w need old e ≤ maxLen := fun need old h => grownCap_le_maxLen w need old e (by unfold maxLen; omega)
    have grow : ∀ (old : Nat), OwnO (w.drew.alloc (.cells (xs.toArray ++ news.toArray ++ Builtin.zeroCells z.cells (grownCap w (xs.length + news.length) old e - (xs.length + news.length))) e)) e
        (.slice (some ⟨w.heap.size, 0, none⟩) (xs.length + news.length) (grownCap w (xs.length + news.length) old e)) (xs ++ news) := by
      intro old
      have hge := grownCap_ge w (xs.length + news.length) old e
      refine .inr ⟨w.heap.size, 0, grownCap w (xs.length + news.length) old e, _, by simp, heap_alloc_new w.drew _, by simpa using hge, hml _ _ h63, ?_, ?_⟩
      · simp only [Array.size_append, List.size_toArray, size_zeroCells, hz, Nat.mul_one]; omega
      · simp only [Array.toList_append, List.append_assoc, List.drop_zero]
        rw [← List.append_assoc]
        exact List.take_left
    have hupd : ∀ (o : Obj) (S : List Nat), Upd w (w.drew.alloc o) S := fun o S => ((Upd.drew w).trans (Upd.alloc w.drew o)).weak (by simp)
    rcases hown with ⟨rfl, rfl⟩ | ⟨b, o, cap, cur, rfl, hb, h2, h3, h4, h5⟩
    · have hr := run_append_nil (P := P) w t t' e inf z ht' hi hiz ad news.length cu news hl hnews hpos (by simp at h63; omega) (by simp at hby; omega)
      have hg := grow 0
      simp only [List.length_nil, Nat.zero_add, List.nil_append, Array.empty_append] at hg ⊢
      exact ⟨_, _, hr, hg, hupd _ _, fun b hb => .inr (by cases hb; exact Nat.le_refl _)⟩
    · by_cases hroom : xs.length + news.length ≤ cap
      · have hr := run_append_roomO (P := P) w t t' e inf ht' hi b o xs.length cap cur hb ad news.length cu news hl hnews h1 hroom (by rw [his]; omega)
        rw [his, Nat.mul_one] at hr
        refine ⟨_, _, hr, .inr ⟨b, o, cap, _, by simp, setRow_heap w b cur _ e _ hb, by simpa using hroom, h3, ?_, ?_⟩, Upd.setRow w b _, fun _ h => .inl h⟩
        · simp only [List.size_toArray, List.length_append, List.length_take, List.length_drop, Array.length_toList]; omega
        · have hcl : cur.toList.length = cur.size := Array.length_toList
          rw [List.append_assoc, List.drop_append_of_le_length (by rw [List.length_take, hcl]; omega), show List.drop o (List.take (o + xs.length) cur.toList) = List.take xs.length (List.drop o cur.toList) by rw [List.drop_take, Nat.add_sub_cancel_left]]
          rw [h5, ← List.append_assoc]
          exact List.take_left
      · have hr := run_append_grow (P := P) w t t' e inf z ht' hi hiz ⟨b, o, none⟩ xs.length cap xs (by rw [his, Nat.mul_one]) (fun j c hj => hsl.cell hj) ad news.length cu news hl hnews (by omega) (by omega) (growslice_fits (by omega) hby)
        exact ⟨_, _, hr, grow cap, hupd _ _, fun b hb => .inr (by cases hb; exact Nat.le_refl _)⟩
theorem SO_appendO (hd : Nat.blt d n.n = true) (ht : lk E.und t = some (.slice e)) (he : lk E.inf e = some (z, 1, by_)) (hz : z.cells.size = 1) {xs news : List Value} (hx : ev fr x = some v) (hy : ev fr y = some u)
    (hown : OwnO w e v xs) (hu : Sl w u news) (h1 : ∀ c ∈ news, c.oneCell' = true) (hby : (xs.length + news.length) * by_ ≤ 140737488355328) (h63 : xs.length + news.length ≤ 9223372036854775807)
    (h : ∀ v' w', OwnO w' e v' (xs ++ news) → Upd w w' v.ownBlock.toList → (∀ b, v'.ownBlock = some b → v.ownBlock = some b ∨ w.heap.size ≤ b) → SO E n Q0 s ops rest ((d, v') :: fr) w') :
    SO E n Q0 s ops (⟨some d, .call ⟨.builtin .append, #[x, y], #[t, t]⟩, ty, pos, after, none⟩ :: rest) fr w := by
  obtain ⟨v', w', hr, h2, h3, h4⟩ := run_appendO (P := P) ty w ht he hz hown hu h1 hby h63
  refine SO_v hd (w' := w') (v := v') ⟨fun a ha' _ _ _ _ => ?_⟩ (h v' w' h2 h3 h4)
  simp only [execOp, resolve]
  simp [ha'.ev hx, ha'.ev hy, invoke, builtin, hr]
theorem SO_storeO {i : Nat} {xs : List Value} {c : Value} (ht : lk E.inf t = some (z, 1, by_)) (hown : OwnO w e v xs) (ha : ev fr x = some (.pointer (some (addrAt v i)))) (hx : ev fr y = some c) (hc : c.oneCell' = true)
    (hi : i < xs.length) (h : ∀ w', Upd w w' v.ownBlock.toList → OwnO w' e v (xs.set i c) → SO E n Q0 s ops rest fr w') :
    SO E n Q0 s ops (⟨none, .store t x y, ty, pos, after, none⟩ :: rest) fr w := by
  rcases hown with ⟨_, rfl⟩ | ⟨b, o, cap, cur, rfl, hb, h2, h3, h4, h5⟩
  · simp at hi
  · have hA : addrAt (.slice (some ⟨b, o, none⟩) xs.length cap) i = ⟨b, o + i, none⟩ := by simp [addrAt, Addr.add_lit]
    rw [hA] at ha
    refine SO_store ht ha hx hc hb (lt_nblt (by omega)) fun w' hU hH => h w' (by simpa [Value.ownBlock] using hU) (.inr ⟨b, o, cap, _, by simp, hH, by simpa using h2, h3, by simpa using h4, ?_⟩)
    rw [List.length_set, Array.toList_setIfInBounds]
    conv => rhs; rw [← h5]
    rw [List.drop_set, if_neg (by omega), Nat.add_sub_cancel_left, List.take_set]
end

/-! ### The pieces that there are -/
/-- A block of cells. -/
def pt (b : Nat) (cs : List Value) (T : TypeId) : Ch where
  wr := fun x => x = b
  rd := fun _ => False
  bd := fun _ => False
  P := fun w => w.heap[b]? = some (.cells cs.toArray T (0, 0))
  loc := fun h hb => (hb b (.inl rfl)).trans h
  lt := fun h hb => by rcases hb with rfl | hb | hb; exact lt_of_heap h; exact hb.elim; exact hb.elim
/-- A slice that owns its cells. -/
def own (e : TypeId) (v : Value) (xs : List Value) : Ch where
  wr := fun x => v.ownBlock = some x
  rd := fun _ => False
  bd := fun _ => False
  P := fun w => OwnO w e v xs
  loc := fun h hb => h.keep fun b h => hb b (.inl h)
  lt := fun h hb => by rcases hb with hb | hb | hb; exact h.blt hb; exact hb.elim; exact hb.elim
theorem Sl.of_block {w w' : World} {v : Value} {xs : List Value} (h : Sl w v xs) (hb : ∀ b, xs ≠ [] ∧ v.ownBlock = some b → w'.heap[b]? = w.heap[b]?) : Sl w' v xs := by
  obtain ⟨a, cap, rfl, h1, h2, h3⟩ := h
  refine ⟨a, cap, rfl, h1, h2, fun i u hi => ?_⟩
  obtain ⟨x, rfl, hx⟩ := h3 i u hi
  have e : (x.add i).block = x.block := by unfold Addr.add; split <;> rfl
  exact ⟨x, rfl, (World.cell?_of_block (by rw [e]; exact hb _ ⟨by rintro rfl; simp at hi, rfl⟩)).trans hx⟩
theorem Sl.blt {w : World} {v : Value} {xs : List Value} (h : Sl w v xs) {b : Nat} (hb : xs ≠ [] ∧ v.ownBlock = some b) : b < w.heap.size := by
  obtain ⟨a, cap, rfl, h1, h2, h3⟩ := h
  obtain ⟨h4, h5⟩ := hb
  cases xs with
  | nil => exact absurd rfl h4
  | cons u r =>
    obtain ⟨x, rfl, hx⟩ := h3 0 u rfl
    have e : (x.add 0).block = x.block := by unfold Addr.add; split <;> rfl
    have := World.block_lt_of_cell? w _ hx
    rw [e] at this
    simp only [Value.ownBlock, Option.some.injEq] at h5
    rw [← h5]; exact this
/-- A slice that is read. -/
def ro (v : Value) (xs : List Value) : Ch where
  wr := fun _ => False
  rd := fun x => xs ≠ [] ∧ v.ownBlock = some x
  bd := fun _ => False
  P := fun w => Sl w v xs
  loc := fun h hb => h.of_block fun b hx => hb b (.inr (.inl hx))
  lt := fun h hb => by rcases hb with hb | hb | hb; exact hb.elim; exact h.blt hb; exact hb.elim
/-- A slice that is lent. -/
def vw (v : Value) (xs : List Value) : Ch where
  wr := fun _ => False
  rd := fun _ => False
  bd := fun x => xs ≠ [] ∧ v.ownBlock = some x
  P := fun w => Sl w v xs
  loc := fun h hb => h.of_block fun b hx => hb b (.inr (.inr hx))
  lt := fun h hb => by rcases hb with hb | hb | hb; exact hb.elim; exact hb.elim; exact h.blt hb
/-- A map of integers. -/
def mpc (b : Nat) (f : Int → Option Value) : Ch where
  wr := fun x => x = b
  rd := fun _ => False
  bd := fun _ => False
  P := fun w => MapF w b f
  loc := fun {w w'} h hb => by obtain ⟨es, c, h1, h2⟩ := h.ex; exact ⟨es, c, (hb b (.inl rfl)).trans h1, h2⟩
  lt := fun h hb => by rcases hb with rfl | hb | hb; exact h.lt; exact hb.elim; exact hb.elim

theorem has_vw {F : List Ch} {v : Value} {xs : List Value} (h : vw v xs ∈ F) : Has F (vw v xs) := ⟨fun _ hw => hw.h _ h, fun _ h => h, fun _ h => h, fun _ hb => ⟨_, h, hb⟩⟩
theorem has_ro {F : List Ch} {v : Value} {xs : List Value} (h : ro v xs ∈ F) : Has F (vw v xs) := ⟨fun _ hw => hw.h (ro v xs) h, fun _ h => h, fun _ h => h, fun b hb => ⟨_, h, by rcases hb with hb | hb | hb; exact hb.elim; exact hb.elim; exact .inr (.inl hb)⟩⟩
theorem has_own {F : List Ch} {e : TypeId} {v : Value} {xs : List Value} (h : own e v xs ∈ F) : Has F (vw v xs) := ⟨fun _ hw => OwnO.sl (hw.h (own e v xs) h), fun _ h => h, fun _ h => h, fun b hb => ⟨_, h, by rcases hb with hb | hb | hb; exact hb.elim; exact hb.elim; exact .inl hb.2⟩⟩
theorem has_nil {F : List Ch} : Has F (vw (.slice none 0 0) []) := ⟨fun w _ => Sl.nil w, fun _ h => h, fun _ h => h, fun b hb => by rcases hb with hb | hb | hb; exact hb.elim; exact hb.elim; exact absurd rfl hb.1⟩
theorem has_sub {F : List Ch} {v : Value} {xs : List Value} (h : Has F (vw v xs)) {lo hi : Nat} (h1 : lo ≤ hi) (h2 : hi ≤ xs.length) : Has F (vw (slSub v lo hi) ((xs.take hi).drop lo)) :=
  ⟨fun w hw => Sl.sub (h.P w hw) h1 h2, fun _ h => h, fun _ h => h, fun b hb => h.ft b (by
    rcases hb with hb | hb | hb
    · exact hb.elim
    · exact hb.elim
    · refine .inr (.inr ⟨fun e => hb.1 (by subst e; simp), ?_⟩)
      rw [← slSub_block v lo hi]; exact hb.2)⟩
theorem own_nil (e : TypeId) (A : List Ch) : Im A (own e (.slice none 0 0) [] :: A) := by
  have h0 : ∀ b, ¬ (own e (.slice none 0 0) []).ft b := by rintro b (h | h | h); cases h; exact h; exact h
  refine ⟨fun w hw => Sat.cons.2 ⟨.inl ⟨rfl, rfl⟩, fun a _ => ⟨fun b hb => absurd (.inl hb) (h0 b), fun b _ hf => h0 b hf⟩, hw⟩, fun b hb => ?_, fun b hb => ?_, fun b hb => ?_⟩
  · obtain ⟨x, hx, hb⟩ := hb
    rcases List.mem_cons.1 hx with rfl | hx
    · exact absurd (.inl hb) (h0 b)
    · exact ⟨x, hx, hb⟩
  · obtain ⟨x, hx, hb⟩ := hb
    rcases List.mem_cons.1 hx with rfl | hx
    · exact absurd (.inr (.inl hb)) (h0 b)
    · exact .inr ⟨x, hx, hb⟩
  · obtain ⟨x, hx, hb⟩ := hb
    rcases List.mem_cons.1 hx with rfl | hx
    · exact absurd hb (h0 b)
    · exact ⟨x, hx, hb⟩
theorem im_freeze (e : TypeId) (v : Value) (xs : List Value) : Im1 (own e v xs) (ro v xs) := ⟨fun _ h => h.sl, fun _ h => h.elim, fun _ h => .inl h.2, fun b hb => by rcases hb with hb | hb | hb; exact hb.elim; exact .inl hb.2; exact hb.elim⟩
theorem im_sub (e : TypeId) (v : Value) (xs : List Value) {lo hi : Nat} (h1 : lo ≤ hi) (h2 : hi ≤ xs.length) : Im1 (own e v xs) (own e (slSub v lo hi) ((xs.take hi).drop lo)) := by
  have hb := slSub_block v lo hi
  refine ⟨fun w h => OwnO.sub h h1 h2, fun b h => ?_, fun _ h => h.elim, fun b h => ?_⟩
  · show v.ownBlock = some b; rw [← hb]; exact h
  · rcases h with h | h | h
    · exact .inl (by show v.ownBlock = some b; rw [← hb]; exact h)
    · exact h.elim
    · exact h.elim
/-- A piece that is not lent; one that is. -/
class NoB (c : Ch) : Prop where
  nb : ∀ b, ¬ c.bd b
class Lent (c : Ch) : Prop where
  lent : ∀ b, ¬ c.wr b ∧ ¬ c.rd b
instance (b : Nat) (cs : List Value) (T : TypeId) : NoB (pt b cs T) := ⟨fun _ h => h⟩
instance (e : TypeId) (v : Value) (xs : List Value) : NoB (own e v xs) := ⟨fun _ h => h⟩
instance (v : Value) (xs : List Value) : NoB (ro v xs) := ⟨fun _ h => h⟩
instance (b : Nat) (f : Int → Option Value) : NoB (mpc b f) := ⟨fun _ h => h⟩
instance (v : Value) (xs : List Value) : Lent (vw v xs) := ⟨fun _ => ⟨fun h => h, fun h => h⟩⟩
theorem pt_at {A : List Ch} {w : World} {b : Nat} {cs : List Value} {T : TypeId} (h : pt b cs T ∈ A) (hw : Sat A w) : w.heap[b]? = some (.cells cs.toArray T (0, 0)) := hw.h (pt b cs T) h
end Go.Art
