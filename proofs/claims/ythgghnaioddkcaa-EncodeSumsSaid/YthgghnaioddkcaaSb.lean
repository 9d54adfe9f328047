/- Bytes as strings; the kit's comparison of bytes. Conditions: none. -/
import Derived.Test.YthgghnaioddkcaaEn
import Derived.Laws.BytesArg
set_option linter.unusedSimpArgs false
set_option linter.unusedVariables false
namespace Go.Art
open Go Go.Proofs Go.RowKit

/-- Bytes are from 0 to 255. -/
def inB (l : List Int) : Prop := ∀ x ∈ l, 0 ≤ x ∧ x ≤ 255
theorem inB.nil : inB [] := fun _ h => nomatch h
theorem inB.cons {x : Int} {l : List Int} (h : 0 ≤ x ∧ x ≤ 255) (k : inB l) : inB (x :: l) := fun y hy => by
  rcases List.mem_cons.1 hy with rfl | hy
  · exact h
  · exact k y hy
theorem inB.app {l m : List Int} (h : inB l) (k : inB m) : inB (l ++ m) := fun y hy => by
  rcases List.mem_append.1 hy with hy | hy
  · exact h y hy
  · exact k y hy
theorem inB.rep (n : Nat) {x : Int} (h : 0 ≤ x ∧ x ≤ 255) : inB (List.replicate n x) := fun y hy => by rw [List.eq_of_mem_replicate hy]; exact h
theorem inB.xor {l m : List Int} : inB (xorL l m) := fun y hy => by
  unfold xorL at hy
  obtain ⟨i, hi, rfl⟩ := List.mem_iff_getElem.1 hy
  rw [List.getElem_zipWith]; exact bxr_range _ _
theorem u8_inj {a b : Int} (ha : 0 ≤ a ∧ a ≤ 255) (hb : 0 ≤ b ∧ b ≤ 255) (h : UInt8.ofNat a.toNat = UInt8.ofNat b.toNat) : a = b := by
  have h1 := congrArg UInt8.toNat h
  simp at h1
  omega
theorem strOf_inj : ∀ {l m : List Int}, inB l → inB m → (l.map fun n => UInt8.ofNat n.toNat) = (m.map fun n => UInt8.ofNat n.toNat) → l = m
  | [], [], _, _, _ => rfl
  | [], _ :: _, _, _, h => by simp at h
  | _ :: _, [], _, _, h => by simp at h
  | a :: l, b :: m, ha, hb, h => by
    simp only [List.map_cons, List.cons.injEq] at h
    rw [u8_inj (ha a (by simp)) (hb b (by simp)) h.1, strOf_inj (fun x hx => ha x (by simp [hx])) (fun x hx => hb x (by simp [hx])) h.2]
theorem toListLoop (b : ByteArray) : ∀ (m i : Nat) (r : List UInt8), b.size - i = m → ByteArray.toList.loop b i r = r.reverse ++ b.data.toList.drop i := by
  intro m
  induction m with
  | zero =>
    intro i r h
    have hs : b.size = b.data.toList.length := rfl
    rw [ByteArray.toList.loop, if_neg (by omega), List.drop_eq_nil_of_le (by omega), List.append_nil]
  | succ m ih =>
    intro i r h
    have hs : b.size = b.data.toList.length := rfl
    have hi : i < b.data.toList.length := by omega
    rw [ByteArray.toList.loop, if_pos (by omega), ih (i + 1) _ (by omega), List.drop_eq_getElem_cons hi, List.reverse_cons, List.append_assoc]
    congr 1
    have : b.get! i = b.data.toList[i] := by
      show b.data[i]! = _
      rw [getElem!_pos b.data i (by simpa using hi)]; simp
    rw [this]; rfl
theorem toList_data (b : ByteArray) : b.toList = b.data.toList := by
  unfold ByteArray.toList
  rw [toListLoop b _ 0 [] rfl]; rfl
theorem str_eq {l m : List Int} (hl : inB l) (hm : inB m) : ((strOfNums l).toList == (strOfNums m).toList) = decide (l = m) := by
  rw [Bool.eq_iff_iff, decide_eq_true_iff, beq_iff_eq, toList_data, toList_data, strOfNums_data, strOfNums_data]
  constructor
  · exact fun h => strOf_inj hl hm h
  · rintro rfl; rfl
section
variable {P : Program} {E : Env P} {n : Sh} {X : Cx} {s : List K} {fr : Fr} {A : List Ch} {ops : Array Oper} {rest : List Oper} {d : Nat} {ty t t' el : TypeId} {pos : String} {after : Array Edge} {v : Value} {x y : Operand} {w : World} {l l' : List Int} {a b : ByteArray}
theorem R_bstr (ht : lk E.und t = some (.slice el)) (he : lk E.und el = some (.int .u8)) (ht' : lk E.und t' = some .string) (hx : ev fr x = some v) (hs : Sl w v (By l)) : OpV P n fr (.convert t t' x) ty w (.string (strOfNums l)) w := ⟨fun ac ha _ _ _ _ => by
  obtain ⟨o, c, rfl, h1, h2, h3⟩ := hs
  have h4 := run_convert_bytes_string (P := P) w t t' el o (By l).length c (E.un ht) (E.un he) (E.un ht')
  have h8 : (convert t t' (.slice o (By l).length c)).run P w = .ok (.string (strOfNums l)) w := by
    rw [h4]
    cases o with
    | none =>
      cases l with
      | nil => rfl
      | cons z r => obtain ⟨_, h, _⟩ := h3 0 _ (by rfl); cases h
    | some ad =>
      have h5 := run_loadCells_list (P := P) w ad (By l) (fun j u hj => by obtain ⟨q, h6, h7⟩ := h3 j u hj; cases h6; exact h7)
      rw [run_bytesToString w ad _ c l h5, foldl_push_bytes]
      simp [strOfNums, ByteArray.empty, ByteArray.emptyWithCapacity]
      rfl
  simp only [execOp, ha.ev hx]
  simp only [Sem.run_bind, h8, Result.andThen_ok]
  rfl⟩
theorem bst (k : TO E n X s ops rest ((d, .string (strOfNums l)) :: fr) A) (hx : ev fr x = some v := by rfl) (hh : Has A (vw v (By l)) := by first | (apply has_vw; (repeat (first | apply List.Mem.head | apply List.Mem.tail)); first | done | fail) | (apply has_own; (repeat (first | apply List.Mem.head | apply List.Mem.tail)); first | done | fail) | (apply has_ro; (repeat (first | apply List.Mem.head | apply List.Mem.tail)); first | done | fail) | apply has_nil | ((with_reducible apply has_el); (focus (first | (apply has_vels; (repeat (first | apply List.Mem.head | apply List.Mem.tail)); first | done | fail) | (apply has_rels; (repeat (first | apply List.Mem.head | apply List.Mem.tail)); first | done | fail))); omega) | (apply has_pt; (repeat (first | apply List.Mem.head | apply List.Mem.tail)); first | done | fail) | (apply has_lpt; (repeat (first | apply List.Mem.head | apply List.Mem.tail)); first | done | fail) | (apply has_vels; (repeat (first | apply List.Mem.head | apply List.Mem.tail)); first | done | fail) | (apply has_rels; (repeat (first | apply List.Mem.head | apply List.Mem.tail)); first | done | fail) | with_reducible assumption | ((with_reducible apply has_elg); (focus (first | (apply has_velg; (repeat (first | apply List.Mem.head | apply List.Mem.tail)); first | done | fail) | (apply has_relg; (repeat (first | apply List.Mem.head | apply List.Mem.tail)); first | done | fail))); omega) | (apply has_velg; (repeat (first | apply List.Mem.head | apply List.Mem.tail)); first | done | fail) | (apply has_relg; (repeat (first | apply List.Mem.head | apply List.Mem.tail)); first | done | fail)) (ht : lk E.und t = some (.slice el) := by rfl) (he : lk E.und el = some (.int .u8) := by rfl) (ht' : lk E.und t' = some .string := by rfl) (hd : Nat.blt d n.n = true := by rfl) :
    TO E n X s ops (⟨some d, .convert t t' x, ty, pos, after, none⟩ :: rest) fr A := TO.val (fun _ h => R_bstr ht he ht' hx (has_sl h hh)) k hd
theorem R_streq (hx : ev fr x = some (.string a)) (hy : ev fr y = some (.string b)) : OpV P n fr (.binOp .eql t x y t') ty w (.bool (a.toList == b.toList)) w := ⟨fun ac ha _ _ _ _ => by
  have hg : (eqGuard .eql t x y (.string a) (.string b)).run P w = .ok () w := rfl
  simp only [execOp, ha.ev hx, ha.ev hy]
  simp [hg, binOp, Op.stringOp]⟩
theorem seq_ (k : TO E n X s ops rest ((d, .bool (decide (l = l'))) :: fr) A) (hx : ev fr x = some (.string (strOfNums l)) := by rfl) (hy : ev fr y = some (.string (strOfNums l')) := by rfl) (hl : inB l := by assumption) (hl' : inB l' := by assumption) (hd : Nat.blt d n.n = true := by rfl) :
    TO E n X s ops (⟨some d, .binOp .eql t x y t', ty, pos, after, none⟩ :: rest) fr A := TO.val (fun _ _ => by rw [← str_eq hl hl']; exact R_streq hx hy) k hd
end
attribute [local irreducible] Fit pt own ro vw mpc lpt vels rels mow lrc dfr
attribute [local irreducible] lmp lme mit velg relg
theorem SameBytes_tr (a b : Value) (l m : List Int) (hl : inB l) (hm : inB m) : Tr Try.prog 19 [a, b] [vw a (By l), vw b (By m)] [] fun v D => v = .bool (decide (l = m)) ∧ D = [] := by
  refine Tr.enter env _ Try.func19 (by kernel_rfl) rfl Try.ntmps19 rfl (by repeat (first | exact has00 | refine has01 ?_)) fun w0 => ?_
  repeat' first|refine bst (l := l) ?_|refine bst (l := m) ?_|refine seq_ ?_|(refine wo ?_; first|(refine ao ?_; first|refine aw ?_|refine aw6 ?_|refine oa ?_|refine adiv ?_|refine amod ?_|refine shr1 ?_|refine shr ?_|refine umod ?_|refine isl ?_|refine ipe ?_|refine ipn ?_|refine ibe ?_)|refine acw ?_|refine ucv ?_|refine anw ?_|refine oa ?_|refine ld ?_|refine ldl ?_|refine lnm ?_|refine ixmn ?_|refine ixm ?_|refine li ?_|refine lv ?_|refine ln ?_|refine ixn ?_|refine ix ?_|refine le ?_|refine sr ?_|refine soi ?_|refine scm ?_|refine sclm ?_|refine schm ?_|refine gy ?_|refine gn ?_|refine gnn ?_|refine gu ?_|(refine gsi (fun hB => ?_) (fun hB => ?_) <;> try (exfalso; omega))|(refine gsn (fun hB => ?_) (fun hB => ?_) <;> try (exfalso; omega))|(refine gs (fun hB => ?_) (fun hB => ?_) <;> try (exfalso; omega)))|(refine gc ?_; first|refine ct ?_|refine cf ?_|(refine ci (fun hB => ?_) (fun hB => ?_) <;> try (exfalso; omega))|(refine cn (fun hB => ?_) (fun hB => ?_) <;> try (exfalso; omega))|(refine cb (fun hB => ?_) (fun hB => ?_) <;> try (exfalso; omega)))|refine sq ?_|refine rg ?_|refine xc ?_|refine nl ?_|refine sk ?_|refine bk ?_|refine xe ?_|refine rt ?_|refine xb ?_
  exact r1 ⟨rfl, rfl⟩
end Go.Art
