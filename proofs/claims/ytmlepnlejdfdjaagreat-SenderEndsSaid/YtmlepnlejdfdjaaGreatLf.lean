/- Texts put together: Sb Sz Df Oc Ow Cr Ar Pk Pp. Conditions: none. -/
import Derived.Test.YtmlepnlejdfdjaaGreatLe
set_option linter.unusedSimpArgs false
set_option linter.unusedVariables false
namespace Go.Art
open Go Go.Proofs Go.RowKit

/-- Bytes are from 0 to 255. -/
def inB (l : List Int) : Prop := ∀ x ∈ l, 0 ≤ x ∧ x ≤ 255
theorem inB.nil : inB [] := fun _ h => nomatch h
theorem inB.cons {x : Int} {l : List Int} (h : 0 ≤ x ∧ x ≤ 255) (k : inB l) : inB (x :: l) := fun y hy => by
  rcases List.mem_cons.1 hy with rfl | hy
  · exact h
  · exact k y hy
theorem inB.app {l m : List Int} (h : inB l) (k : inB m) : inB (l ++ m) := fun y hy => by
  rcases List.mem_append.1 hy with hy | hy
  · exact h y hy
  · exact k y hy
theorem inB.rep (n : Nat) {x : Int} (h : 0 ≤ x ∧ x ≤ 255) : inB (List.replicate n x) := fun y hy => by rw [List.eq_of_mem_replicate hy]; exact h
theorem inB.xor {l m : List Int} : inB (xorL l m) := fun y hy => by
  unfold xorL at hy
  obtain ⟨i, hi, rfl⟩ := List.mem_iff_getElem.1 hy
  rw [List.getElem_zipWith]; exact bxr_range _ _
theorem u8_inj {a b : Int} (ha : 0 ≤ a ∧ a ≤ 255) (hb : 0 ≤ b ∧ b ≤ 255) (h : UInt8.ofNat a.toNat = UInt8.ofNat b.toNat) : a = b := by
  have h1 := congrArg UInt8.toNat h
  simp at h1
  omega
theorem strOf_inj : ∀ {l m : List Int}, inB l → inB m → (l.map fun n => UInt8.ofNat n.toNat) = (m.map fun n => UInt8.ofNat n.toNat) → l = m
  | [], [], _, _, _ => rfl
  | [], _ :: _, _, _, h => by simp at h
  | _ :: _, [], _, _, h => by simp at h
  | a :: l, b :: m, ha, hb, h => by
    simp only [List.map_cons, List.cons.injEq] at h
    rw [u8_inj (ha a (by simp)) (hb b (by simp)) h.1, strOf_inj (fun x hx => ha x (by simp [hx])) (fun x hx => hb x (by simp [hx])) h.2]
theorem toListLoop (b : ByteArray) : ∀ (m i : Nat) (r : List UInt8), b.size - i = m → ByteArray.toList.loop b i r = r.reverse ++ b.data.toList.drop i := by
  intro m
  induction m with
  | zero =>
    intro i r h
    have hs : b.size = b.data.toList.length := rfl
    rw [ByteArray.toList.loop, if_neg (by omega), List.drop_eq_nil_of_le (by omega), List.append_nil]
  | succ m ih =>
    intro i r h
    have hs : b.size = b.data.toList.length := rfl
    have hi : i < b.data.toList.length := by omega
    rw [ByteArray.toList.loop, if_pos (by omega), ih (i + 1) _ (by omega), List.drop_eq_getElem_cons hi, List.reverse_cons, List.append_assoc]
    congr 1
    have : b.get! i = b.data.toList[i] := by
      show b.data[i]! = _
      rw [getElem!_pos b.data i (by simpa using hi)]; simp
    rw [this]; rfl
theorem toList_data (b : ByteArray) : b.toList = b.data.toList := by
  unfold ByteArray.toList
  rw [toListLoop b _ 0 [] rfl]; rfl
theorem str_eq {l m : List Int} (hl : inB l) (hm : inB m) : ((strOfNums l).toList == (strOfNums m).toList) = decide (l = m) := by
  rw [Bool.eq_iff_iff, decide_eq_true_iff, beq_iff_eq, toList_data, toList_data, strOfNums_data, strOfNums_data]
  constructor
  · exact fun h => strOf_inj hl hm h
  · rintro rfl; rfl
section
variable {P : Program} {E : Env P} {n : Sh} {X : Cx} {s : List K} {fr : Fr} {A : List Ch} {ops : Array Oper} {rest : List Oper} {d : Nat} {ty t t' el : TypeId} {pos : String} {after : Array Edge} {v : Value} {x y : Operand} {w : World} {l l' : List Int} {a b : ByteArray}
theorem R_bstr (ht : lk E.und t = some (.slice el)) (he : lk E.und el = some (.int .u8)) (ht' : lk E.und t' = some .string) (hx : ev fr x = some v) (hs : Sl w v (By l)) : OpV P n fr (.convert t t' x) ty w (.string (strOfNums l)) w := ⟨fun ac ha _ _ _ _ => by
  obtain ⟨o, c, rfl, h1, h2, h3⟩ := hs
  have h4 := run_convert_bytes_string (P := P) w t t' el o (By l).length c (E.un ht) (E.un he) (E.un ht')
  have h8 : (convert t t' (.slice o (By l).length c)).run P w = .ok (.string (strOfNums l)) w := by
    rw [h4]
    cases o with
    | none =>
      cases l with
      | nil => rfl
      | cons z r => obtain ⟨_, h, _⟩ := h3 0 _ (by rfl); cases h
    | some ad =>
      have h5 := run_loadCells_list (P := P) w ad (By l) (fun j u hj => by obtain ⟨q, h6, h7⟩ := h3 j u hj; cases h6; exact h7)
      rw [run_bytesToString w ad _ c l h5, foldl_push_bytes]
      simp [strOfNums, ByteArray.empty, ByteArray.emptyWithCapacity]
      rfl
  simp only [execOp, ha.ev hx]
  simp only [Sem.run_bind, h8, Result.andThen_ok]
  rfl⟩
theorem bst (k : TO E n X s ops rest ((d, .string (strOfNums l)) :: fr) A) (hx : ev fr x = some v := by rfl) (hh : Has A (vw v (By l)) := by first | (apply has_vw; (repeat (first | apply List.Mem.head | apply List.Mem.tail)); first | done | fail) | (apply has_own; (repeat (first | apply List.Mem.head | apply List.Mem.tail)); first | done | fail) | (apply has_ro; (repeat (first | apply List.Mem.head | apply List.Mem.tail)); first | done | fail) | apply has_nil | ((with_reducible apply has_el); (focus (first | (apply has_vels; (repeat (first | apply List.Mem.head | apply List.Mem.tail)); first | done | fail) | (apply has_rels; (repeat (first | apply List.Mem.head | apply List.Mem.tail)); first | done | fail))); omega) | (apply has_pt; (repeat (first | apply List.Mem.head | apply List.Mem.tail)); first | done | fail) | (apply has_lpt; (repeat (first | apply List.Mem.head | apply List.Mem.tail)); first | done | fail) | (apply has_vels; (repeat (first | apply List.Mem.head | apply List.Mem.tail)); first | done | fail) | (apply has_rels; (repeat (first | apply List.Mem.head | apply List.Mem.tail)); first | done | fail) | with_reducible assumption | ((with_reducible apply has_elg); (focus (first | (apply has_velg; (repeat (first | apply List.Mem.head | apply List.Mem.tail)); first | done | fail) | (apply has_relg; (repeat (first | apply List.Mem.head | apply List.Mem.tail)); first | done | fail))); omega) | (apply has_velg; (repeat (first | apply List.Mem.head | apply List.Mem.tail)); first | done | fail) | (apply has_relg; (repeat (first | apply List.Mem.head | apply List.Mem.tail)); first | done | fail) | (apply has_vwf; (repeat (first | apply List.Mem.head | apply List.Mem.tail)); first | done | fail)) (ht : lk E.und t = some (.slice el) := by rfl) (he : lk E.und el = some (.int .u8) := by rfl) (ht' : lk E.und t' = some .string := by rfl) (hd : Nat.blt d n.n = true := by rfl) :
    TO E n X s ops (⟨some d, .convert t t' x, ty, pos, after, none⟩ :: rest) fr A := TO.val (fun _ h => R_bstr ht he ht' hx (has_sl h hh)) k hd
theorem R_streq (hx : ev fr x = some (.string a)) (hy : ev fr y = some (.string b)) : OpV P n fr (.binOp .eql t x y t') ty w (.bool (a.toList == b.toList)) w := ⟨fun ac ha _ _ _ _ => by
  have hg : (eqGuard .eql t x y (.string a) (.string b)).run P w = .ok () w := rfl
  simp only [execOp, ha.ev hx, ha.ev hy]
  simp [hg, binOp, Op.stringOp]⟩
theorem seq_ (k : TO E n X s ops rest ((d, .bool (decide (l = l'))) :: fr) A) (hx : ev fr x = some (.string (strOfNums l)) := by rfl) (hy : ev fr y = some (.string (strOfNums l')) := by rfl) (hl : inB l := by assumption) (hl' : inB l' := by assumption) (hd : Nat.blt d n.n = true := by rfl) :
    TO E n X s ops (⟨some d, .binOp .eql t x y t', ty, pos, after, none⟩ :: rest) fr A := TO.val (fun _ _ => by rw [← str_eq hl hl']; exact R_streq hx hy) k hd
end
attribute [local irreducible] Fit pt own ro vw mpc lpt vels rels mow lrc dfr
attribute [local irreducible] lmp lme mit velg relg
theorem SameBytes_tr (a b : Value) (l m : List Int) (hl : inB l) (hm : inB m) : Tr Tryz.prog 56 [a, b] [vw a (By l), vw b (By m)] [] fun v D => v = .bool (decide (l = m)) ∧ D = [] := by
  refine Tr.enter env _ Tryz.func56 (by kernel_rfl) rfl Tryz.ntmps56 rfl (by repeat (first | exact has00 | refine has01 ?_)) fun w0 => ?_
  repeat' first|refine bst (l := l) ?_|refine bst (l := m) ?_|refine seq_ ?_|(refine wo ?_; first|refine oa ?_)|refine sq ?_|refine rg ?_|refine xc ?_|refine nl ?_|refine rt ?_
  exact r1 ⟨rfl, rfl⟩
end Go.Art
set_option linter.unusedSimpArgs false
set_option linter.unusedVariables false
namespace Go.Art
open Go Go.Proofs Go.RowKit

def unI : List Value → Option (List Int)
  | [] => some []
  | .int .i64 x :: r => match unI r with
    | some a => some (x :: a)
    | none => none
  | _ => none
theorem unI_eq : ∀ {vs : List Value} {l : List Int}, unI vs = some l → vs = Is l
  | [], l, h => by cases h; rfl
  | .int .i64 x :: r, l, h => by
    cases ha : unI r with
    | none => simp [unI, ha] at h
    | some a => simp [unI, ha] at h; subst h; rw [unI_eq ha]; rfl
def unB : List Value → Option (List Int)
  | [] => some []
  | .int .u8 x :: r => match unB r with
    | some a => some (x :: a)
    | none => none
  | _ => none
theorem unB_eq : ∀ {vs : List Value} {l : List Int}, unB vs = some l → vs = By l
  | [], l, h => by cases h; rfl
  | .int .u8 x :: r, l, h => by
    cases ha : unB r with
    | none => simp [unB, ha] at h
    | some a => simp [unB, ha] at h; subst h; rw [unB_eq ha]; rfl
section
variable {P : Program} {E : Env P} {n : Sh} {X : Cx} {s : List K} {fr : Fr} {A A' : List Ch} {ops : Array Oper} {rest : List Oper} {d m : Nat} {ty t e : TypeId} {pos : String} {after : Array Edge} {v z : Value} {x y : Operand} {by_ : Nat} {parts : List (Nat × Operand)} {vs : List Value}
theorem slz {l : List Int} (k : ∀ v', v'.oneCell' = true → TO E n X s ops rest ((d, v') :: fr) (own e v' (Is l) :: A)) (hp : parts = idxP 0 (parts.map (·.2)) := by rfl) (hv : evs fr (parts.map (·.2)) = some vs := by rfl) (hi : unI vs = some l := by rfl)
    (hk : l.length = m := by rfl) (hk0 : Nat.blt 0 m = true := by rfl) (hkm : Nat.ble m 16777216 = true := by rfl) (ht : lk E.und t = some (.slice e) := by rfl) (he : lk E.inf e = some (z, 1, by_) := by rfl) (hd : Nat.blt d n.n = true := by rfl) :
    TO E n X s ops (⟨some d, .buildSlice t m parts.toArray, ty, pos, after, none⟩ :: rest) fr A := by
  have := unI_eq hi
  subst this
  exact sli (fun v => TO.one (v := v) (xs := Is l) (fun h => k v h) (by first | (apply has_vw; (repeat (first | apply List.Mem.head | apply List.Mem.tail)); first | done | fail) | (apply has_own; (repeat (first | apply List.Mem.head | apply List.Mem.tail)); first | done | fail) | (apply has_ro; (repeat (first | apply List.Mem.head | apply List.Mem.tail)); first | done | fail) | apply has_nil | ((with_reducible apply has_el); (focus (first | (apply has_vels; (repeat (first | apply List.Mem.head | apply List.Mem.tail)); first | done | fail) | (apply has_rels; (repeat (first | apply List.Mem.head | apply List.Mem.tail)); first | done | fail))); omega) | (apply has_pt; (repeat (first | apply List.Mem.head | apply List.Mem.tail)); first | done | fail) | (apply has_lpt; (repeat (first | apply List.Mem.head | apply List.Mem.tail)); first | done | fail) | (apply has_vels; (repeat (first | apply List.Mem.head | apply List.Mem.tail)); first | done | fail) | (apply has_rels; (repeat (first | apply List.Mem.head | apply List.Mem.tail)); first | done | fail) | with_reducible assumption | ((with_reducible apply has_elg); (focus (first | (apply has_velg; (repeat (first | apply List.Mem.head | apply List.Mem.tail)); first | done | fail) | (apply has_relg; (repeat (first | apply List.Mem.head | apply List.Mem.tail)); first | done | fail))); omega) | (apply has_velg; (repeat (first | apply List.Mem.head | apply List.Mem.tail)); first | done | fail) | (apply has_relg; (repeat (first | apply List.Mem.head | apply List.Mem.tail)); first | done | fail) | (apply has_vwf; (repeat (first | apply List.Mem.head | apply List.Mem.tail)); first | done | fail))) hp hv (Is_one l) (by rw [Is_len]; exact hk) hk0 hkm ht he hd
theorem slbz {l : List Int} (k : ∀ v', v'.oneCell' = true → TO E n X s ops rest ((d, v') :: fr) (own e v' (By l) :: A)) (hp : parts = idxP 0 (parts.map (·.2)) := by rfl) (hv : evs fr (parts.map (·.2)) = some vs := by rfl) (hi : unB vs = some l := by rfl)
    (hk : l.length = m := by rfl) (hk0 : Nat.blt 0 m = true := by rfl) (hkm : Nat.ble m 16777216 = true := by rfl) (ht : lk E.und t = some (.slice e) := by rfl) (he : lk E.inf e = some (z, 1, by_) := by rfl) (hd : Nat.blt d n.n = true := by rfl) :
    TO E n X s ops (⟨some d, .buildSlice t m parts.toArray, ty, pos, after, none⟩ :: rest) fr A := by
  have := unB_eq hi
  subst this
  exact sli (fun v => TO.one (v := v) (xs := By l) (fun h => k v h) (by first | (apply has_vw; (repeat (first | apply List.Mem.head | apply List.Mem.tail)); first | done | fail) | (apply has_own; (repeat (first | apply List.Mem.head | apply List.Mem.tail)); first | done | fail) | (apply has_ro; (repeat (first | apply List.Mem.head | apply List.Mem.tail)); first | done | fail) | apply has_nil | ((with_reducible apply has_el); (focus (first | (apply has_vels; (repeat (first | apply List.Mem.head | apply List.Mem.tail)); first | done | fail) | (apply has_rels; (repeat (first | apply List.Mem.head | apply List.Mem.tail)); first | done | fail))); omega) | (apply has_pt; (repeat (first | apply List.Mem.head | apply List.Mem.tail)); first | done | fail) | (apply has_lpt; (repeat (first | apply List.Mem.head | apply List.Mem.tail)); first | done | fail) | (apply has_vels; (repeat (first | apply List.Mem.head | apply List.Mem.tail)); first | done | fail) | (apply has_rels; (repeat (first | apply List.Mem.head | apply List.Mem.tail)); first | done | fail) | with_reducible assumption | ((with_reducible apply has_elg); (focus (first | (apply has_velg; (repeat (first | apply List.Mem.head | apply List.Mem.tail)); first | done | fail) | (apply has_relg; (repeat (first | apply List.Mem.head | apply List.Mem.tail)); first | done | fail))); omega) | (apply has_velg; (repeat (first | apply List.Mem.head | apply List.Mem.tail)); first | done | fail) | (apply has_relg; (repeat (first | apply List.Mem.head | apply List.Mem.tail)); first | done | fail) | (apply has_vwf; (repeat (first | apply List.Mem.head | apply List.Mem.tail)); first | done | fail))) hp hv (By_one l) (by rw [By_len]; exact hk) hk0 hkm ht he hd
theorem slw (k : ∀ v', v'.oneCell' = true → TO E n X s ops rest ((d, v') :: fr) (own e v' vs :: A)) (hp : parts = idxP 0 (parts.map (·.2)) := by rfl) (hv : evs fr (parts.map (·.2)) = some vs := by rfl)
    (h1 : ∀ c ∈ vs, c.oneCell' = true := by (repeat (first | exact one_nil | refine one_cons (by first | rfl | assumption) ?_)); first | done | fail)
    (hk : vs.length = m := by rfl) (hk0 : Nat.blt 0 m = true := by rfl) (hkm : Nat.ble m 16777216 = true := by rfl) (ht : lk E.und t = some (.slice e) := by rfl) (he : lk E.inf e = some (z, 1, by_) := by rfl) (hd : Nat.blt d n.n = true := by rfl) :
    TO E n X s ops (⟨some d, .buildSlice t m parts.toArray, ty, pos, after, none⟩ :: rest) fr A :=
  sli (fun v => TO.one (v := v) (xs := vs) (fun h => k v h) (by first | (apply has_vw; (repeat (first | apply List.Mem.head | apply List.Mem.tail)); first | done | fail) | (apply has_own; (repeat (first | apply List.Mem.head | apply List.Mem.tail)); first | done | fail) | (apply has_ro; (repeat (first | apply List.Mem.head | apply List.Mem.tail)); first | done | fail) | apply has_nil | ((with_reducible apply has_el); (focus (first | (apply has_vels; (repeat (first | apply List.Mem.head | apply List.Mem.tail)); first | done | fail) | (apply has_rels; (repeat (first | apply List.Mem.head | apply List.Mem.tail)); first | done | fail))); omega) | (apply has_pt; (repeat (first | apply List.Mem.head | apply List.Mem.tail)); first | done | fail) | (apply has_lpt; (repeat (first | apply List.Mem.head | apply List.Mem.tail)); first | done | fail) | (apply has_vels; (repeat (first | apply List.Mem.head | apply List.Mem.tail)); first | done | fail) | (apply has_rels; (repeat (first | apply List.Mem.head | apply List.Mem.tail)); first | done | fail) | with_reducible assumption | ((with_reducible apply has_elg); (focus (first | (apply has_velg; (repeat (first | apply List.Mem.head | apply List.Mem.tail)); first | done | fail) | (apply has_relg; (repeat (first | apply List.Mem.head | apply List.Mem.tail)); first | done | fail))); omega) | (apply has_velg; (repeat (first | apply List.Mem.head | apply List.Mem.tail)); first | done | fail) | (apply has_relg; (repeat (first | apply List.Mem.head | apply List.Mem.tail)); first | done | fail) | (apply has_vwf; (repeat (first | apply List.Mem.head | apply List.Mem.tail)); first | done | fail))) hp hv h1 hk hk0 hkm ht he hd
end
section
variable {P : Program} {E : Env P} {n : Sh} {X : Cx} {s : List K} {fr : Fr} {A A' : List Ch} {ops : Array Oper} {rest : List Oper} {d j by_ : Nat} {ty t el : TypeId} {pos : String} {after : Array Edge} {v z : Value} {x y : Operand} {l : List Int} {dt : TypeDesc} {m : Int}
theorem lb (k : TO E n X s ops rest ((d, y8 (l.getD j 0)) :: fr) A) (hx : ev fr x = some (.pointer (some (addrAt v j))) := by rfl) (hh : Has A (vw v (By l)) := by first | (apply has_vw; (repeat (first | apply List.Mem.head | apply List.Mem.tail)); first | done | fail) | (apply has_own; (repeat (first | apply List.Mem.head | apply List.Mem.tail)); first | done | fail) | (apply has_ro; (repeat (first | apply List.Mem.head | apply List.Mem.tail)); first | done | fail) | apply has_nil | ((with_reducible apply has_el); (focus (first | (apply has_vels; (repeat (first | apply List.Mem.head | apply List.Mem.tail)); first | done | fail) | (apply has_rels; (repeat (first | apply List.Mem.head | apply List.Mem.tail)); first | done | fail))); omega) | (apply has_pt; (repeat (first | apply List.Mem.head | apply List.Mem.tail)); first | done | fail) | (apply has_lpt; (repeat (first | apply List.Mem.head | apply List.Mem.tail)); first | done | fail) | (apply has_vels; (repeat (first | apply List.Mem.head | apply List.Mem.tail)); first | done | fail) | (apply has_rels; (repeat (first | apply List.Mem.head | apply List.Mem.tail)); first | done | fail) | with_reducible assumption | ((with_reducible apply has_elg); (focus (first | (apply has_velg; (repeat (first | apply List.Mem.head | apply List.Mem.tail)); first | done | fail) | (apply has_relg; (repeat (first | apply List.Mem.head | apply List.Mem.tail)); first | done | fail))); omega) | (apply has_velg; (repeat (first | apply List.Mem.head | apply List.Mem.tail)); first | done | fail) | (apply has_relg; (repeat (first | apply List.Mem.head | apply List.Mem.tail)); first | done | fail) | (apply has_vwf; (repeat (first | apply List.Mem.head | apply List.Mem.tail)); first | done | fail)) (hj : j < l.length := by omega)
    (ht : lk E.und t = some dt := by rfl) (hg : aggB dt = false := by rfl) (hd : Nat.blt d n.n = true := by rfl) : TO E n X s ops (⟨some d, .load t x, ty, pos, after, none⟩ :: rest) fr A := le k hx hh (By_get l j hj) ht hg hd
theorem qlb (k : TQ E n X s ops rest ((d, y8 (l.getD j 0)) :: fr) A) (hx : ev fr x = some (.pointer (some (addrAt v j))) := by rfl) (hh : Has A (vw v (By l)) := by first | (apply has_vw; (repeat (first | apply List.Mem.head | apply List.Mem.tail)); first | done | fail) | (apply has_own; (repeat (first | apply List.Mem.head | apply List.Mem.tail)); first | done | fail) | (apply has_ro; (repeat (first | apply List.Mem.head | apply List.Mem.tail)); first | done | fail) | apply has_nil | ((with_reducible apply has_el); (focus (first | (apply has_vels; (repeat (first | apply List.Mem.head | apply List.Mem.tail)); first | done | fail) | (apply has_rels; (repeat (first | apply List.Mem.head | apply List.Mem.tail)); first | done | fail))); omega) | (apply has_pt; (repeat (first | apply List.Mem.head | apply List.Mem.tail)); first | done | fail) | (apply has_lpt; (repeat (first | apply List.Mem.head | apply List.Mem.tail)); first | done | fail) | (apply has_vels; (repeat (first | apply List.Mem.head | apply List.Mem.tail)); first | done | fail) | (apply has_rels; (repeat (first | apply List.Mem.head | apply List.Mem.tail)); first | done | fail) | with_reducible assumption | ((with_reducible apply has_elg); (focus (first | (apply has_velg; (repeat (first | apply List.Mem.head | apply List.Mem.tail)); first | done | fail) | (apply has_relg; (repeat (first | apply List.Mem.head | apply List.Mem.tail)); first | done | fail))); omega) | (apply has_velg; (repeat (first | apply List.Mem.head | apply List.Mem.tail)); first | done | fail) | (apply has_relg; (repeat (first | apply List.Mem.head | apply List.Mem.tail)); first | done | fail) | (apply has_vwf; (repeat (first | apply List.Mem.head | apply List.Mem.tail)); first | done | fail)) (hj : j < l.length := by omega)
    (ht : lk E.und t = some dt := by rfl) (hg : aggB dt = false := by rfl) (hd : Nat.blt d n.n = true := by rfl) : TQ E n X s ops (⟨some d, .load t x, ty, pos, after, none⟩ :: rest) fr A := qle k hx hh (By_get l j hj) ht hg hd
theorem sob (k : TO E n X s ops rest fr (own el v (By (l.set j m)) :: A')) (hx : ev fr x = some (.pointer (some (addrAt v j))) := by rfl) (hm : Tk (own el v (By l)) A A' := by (repeat (first | apply Tk.here | apply Tk.there)); first | done | fail) (hy : ev fr y = some (y8 m) := by rfl)
    (hj : j < l.length := by omega) (ht : lk E.inf t = some (z, 1, by_) := by rfl) : TO E n X s ops (⟨none, .store t x y, ty, pos, after, none⟩ :: rest) fr A := so k hx hm hy (by rw [By_len]; exact hj) (By_set l j m) rfl ht
end
theorem has_elg_nil {g : Int → Value} {F : List Ch} : Has F (velg g [] []) := ⟨fun _ _ => ⟨rfl, fun i hi => by simp at hi⟩, fun _ h => h, fun _ h => h, fun b hb => by
  rcases hb with hb | hb | ⟨i, hi, _⟩
  · exact hb.elim
  · exact hb.elim
  · simp at hi⟩
theorem has_elg_cons {g : Int → Value} {F : List Ch} {v : Value} {l : List Int} {hs : List Value} {ls : List (List Int)} (h : Has F (vw v (l.map g))) (k : Has F (velg g hs ls)) : Has F (velg g (v :: hs) (l :: ls)) := by
  have hb : ∀ b, (velg g (v :: hs) (l :: ls)).ft b → (vw v (l.map g)).ft b ∨ (velg g hs ls).ft b := fun b hb => by
    rcases hb with hb | hb | ⟨i, hi, h1, h2⟩
    · exact hb.elim
    · exact hb.elim
    · cases i with
      | zero => exact .inl (.inr (.inr ⟨h1, h2⟩))
      | succ i => exact .inr (.inr (.inr ⟨i, by simpa using hi, h1, h2⟩))
  refine ⟨fun w hw => ?_, fun b h => h, fun b h => h, fun b hx => ?_⟩
  · have h1 := h.P w hw
    have h2 := k.P w hw
    exact ⟨congrArg (· + 1) h2.1, fun i hi => by
      cases i with
      | zero => exact h1
      | succ i => exact h2.2 i (by simpa using hi)⟩
  · rcases hb b hx with h1 | h1
    · exact h.ft b h1
    · exact k.ft b h1
theorem hpl_nil : ∀ c ∈ ([] : List Ch), ∀ A : List Ch, c ∈ A → Has A c := fun _ h => nomatch h
theorem hpl_lpt {b : Nat} {cs : List Value} {T : TypeId} {pre : List Ch} (k : ∀ c ∈ pre, ∀ A : List Ch, c ∈ A → Has A c) : ∀ c ∈ lpt b cs T :: pre, ∀ A : List Ch, c ∈ A → Has A c := fun c hc A h => by
  rcases List.mem_cons.1 hc with rfl | hc
  · exact has_lpt h
  · exact k c hc A h
theorem hpl_vw {v : Value} {xs : List Value} {pre : List Ch} (k : ∀ c ∈ pre, ∀ A : List Ch, c ∈ A → Has A c) : ∀ c ∈ vw v xs :: pre, ∀ A : List Ch, c ∈ A → Has A c := fun c hc A h => by
  rcases List.mem_cons.1 hc with rfl | hc
  · exact has_vw h
  · exact k c hc A h
theorem Tr.law {P : Program} {f : FuncId} {args : List Value} {pre : List Ch} (h : Tr P f args pre [] fun v D => v = .bool true ∧ D = []) {w : World} (hw : Sat pre w) : Fn P f args w fun v w' => v = .bool true ∧ Ext w w' :=
  (h.fn hw).mono fun _ _ ⟨he, _, ⟨hv, _⟩, _⟩ => ⟨hv, he⟩
end Go.Art
set_option linter.unusedSimpArgs false
set_option linter.unusedVariables false
namespace Go.Art
open Go Go.Proofs Go.RowKit

section
variable {P : Program} {E : Env P} {n : Sh} {X : Cx} {s : List K} {fr : Fr} {A A' B F D G : List Ch} {ops : Array Oper} {rest l : List Oper} {d : Nat} {o : Op} {ty t t' : TypeId} {pos : String} {after : Array Edge} {v u : Value} {w : World} {Q0 : Exit → Act → World → Prop}
/-- A deferred call of a function that has its contract. -/
structure FnD (P : Program) (f : FuncId) (args : List Value) (w : World) (R : Value → World → Prop) : Prop where
  can : Callable P f
  calls : ∀ u, CallsDIn (FF none) 0 P f args.toArray u w fun e u' w' => u' = u ∧ ∃ v, e = .returned v ∧ R v w'
theorem FnD.enter {f : FuncId} {fn : Func} {c : Code} {args : List Value} {R : Value → World → Prop} (E : Env P) (n : Nat) (hf : P.funcs[f]? = some fn) (hnm : (fn.name == "runtime.NumGoroutine") = false) (hb : fn.body = some c)
    (hn : fn.ntmps = n) (hl : Nat.ble args.length n = true) (h : SC E ⟨n, [], none⟩ (bodyPost P fn (RetP R)) [] c (argFr args 0) w) : FnD P f args w R := by
  refine ⟨⟨fn, hf, hnm, by simp [hb]⟩, fun u => callsDIn_of_wp hf hb trivial ?_⟩
  subst hn
  have hl' : args.length ≤ fn.ntmps := Nat.le_of_ble_eq_true hl
  exact h.run _ ⟨by simp; omega, rfl, argFr_slot args fn.ntmps⟩
structure TrD (P : Program) (f : FuncId) (args : List Value) (pre A : List Ch) (R : Value → List Ch → Prop) : Prop where
  run : ∀ w, Sat (pre ++ A) w → FnD P f args w (PR w A R)
  lent : ∀ c ∈ pre, ∀ b, ¬ c.wr b ∧ ¬ c.rd b
theorem St.startD {X : Cx} {pre : List Ch} {w : World} (hw : Sat (pre ++ X.A0) w) (hx : X.w0 = w) (hp : ∀ c ∈ pre, ∀ b, ¬ c.wr b ∧ ¬ c.rd b) : St X (pre ++ X.A0) w := by
  subst hx
  refine ⟨hw, (Mv.refl X.w0 X.A0).trans ⟨rfl, rfl, rfl, Nat.le_refl _, fun _ _ _ => rfl, fun b hb => ?_, fun b hb => ?_⟩⟩
  · rcases wrs_app.1 hb with ⟨c, hc, h1⟩ | h1
    · exact absurd h1 (hp c hc b).1
    · exact .inl h1
  · rcases rds_app.1 hb with ⟨c, hc, h1⟩ | h1
    · exact absurd h1 (hp c hc b).2
    · exact .inr (.inl h1)
theorem TrD.enter {f : FuncId} {fn : Func} {c : Code} {args : List Value} {pre A : List Ch} {R : Value → List Ch → Prop} (E : Env P) (n : Nat) (hf : P.funcs[f]? = some fn) (hnm : (fn.name == "runtime.NumGoroutine") = false) (hb : fn.body = some c)
    (hn : fn.ntmps = n) (hl : Nat.ble args.length n = true) (hp : ∀ c ∈ pre, ∀ b, ¬ c.wr b ∧ ¬ c.rd b) (h : ∀ w0, TC E ⟨n, [], none⟩ ⟨bodyPost P fn (RetP (PR w0 A R)), w0, A⟩ [] c (argFr args 0) (pre ++ A)) : TrD P f args pre A R :=
  ⟨fun w hw => FnD.enter E n hf hnm hb hn hl ((h w).run w (St.startD (X := ⟨_, w, A⟩) hw rfl hp)), hp⟩
/-- A function that defers. -/
abbrev DP (P : Program) (fn : Func) (w0 : World) (A : List Ch) (R : Value → List Ch → Prop) : Exit → Act → World → Prop := bodyPostDIn (FF none) 0 P fn (RetP (PR w0 A R))
theorem Tr.enterD {f : FuncId} {fn : Func} {c : Code} {args : List Value} {pre A : List Ch} {R : Value → List Ch → Prop} (E : Env P) (n : Nat) (hf : P.funcs[f]? = some fn) (hnm : (fn.name == "runtime.NumGoroutine") = false) (hb : fn.body = some c)
    (hn : fn.ntmps = n) (hl : Nat.ble args.length n = true) (hp : ∀ c ∈ pre, ∀ b, ¬ c.wr b ∧ ¬ c.rd b) (h : ∀ w0, TC E ⟨n, [], none⟩ ⟨DP P fn w0 A R, w0, A⟩ [] c (argFr args 0) (pre ++ A)) : Tr P f args pre A R := by
  refine ⟨fun w hw => ⟨⟨fn, hf, hnm, by simp [hb]⟩, calls_of_FF (r := none) (k := 0) (callsIn_of_wp_defers hf hb trivial ?_)⟩, hp⟩
  have h1 := (h w).run w (St.startD (X := ⟨_, w, A⟩) hw rfl hp)
  subst hn
  have hl' : args.length ≤ fn.ntmps := Nat.le_of_ble_eq_true hl
  exact h1.run _ ⟨by simp; omega, rfl, argFr_slot args fn.ntmps⟩
theorem run_resolveF {f : FuncId} {a : Act} {g : Operand} {cap : Array Value} {xs : List Operand} {ats : Array TypeId} {vs : List Value} (hg : a.eval g = .func (.func f) #[] cap) (hv : xs.map a.eval = vs) :
    (resolve a.eval ⟨.value g, xs.toArray, ats⟩ ty).run P w = .ok { target := .fn (.func f) cap, args := vs.toArray } w := by
  have h2 : (Array.map a.eval xs.toArray) = vs.toArray := by simp [hv]
  simp only [resolve, h2, hg, Deferred.ofValue]
  simp
/-- A call is deferred. -/
theorem SO_defer {m : Nat} {ds : List Deferred} {f : FuncId} {g : Operand} {cap : Array Value} {xs : List Operand} {ats : Array TypeId} {vs : List Value} (hg : ev fr g = some (.func (.func f) #[] cap)) (hv : evs fr xs = some vs)
    (h : SO E ⟨m, { target := .fn (.func f) cap, args := vs.toArray } :: ds, none⟩ Q0 s ops rest fr w) : SO E ⟨m, ds, none⟩ Q0 s ops (⟨none, .defer ⟨.value g, xs.toArray, ats⟩, ty, pos, after, none⟩ :: rest) fr w := ⟨fun a ha =>
  wpListIn_plain rfl fun K hK => ⟨fun _ _ => trivial, by
    have h1 := run_resolveF (P := P) (w := w) (ats := ats) (ty := ty) (ha.ev hg) (ha.evs hv)
    have h2 : (execOp a.eval ⟨none, .defer ⟨.value g, xs.toArray, ats⟩, ty, pos, after, none⟩).run P w = .ok (.defer { target := .fn (.func f) cap, args := vs.toArray }) w := by
      simp only [execOp]
      simp only [Sem.run_bind, h1, Result.andThen_ok]
      rfl
    have h3 : (Oper.semAt (FF none).round a.eval ⟨none, .defer ⟨.value g, xs.toArray, ats⟩, ty, pos, after, none⟩).run P w = .ok (.defer { target := .fn (.func f) cap, args := vs.toArray }) w := h2
    rw [h3]
    simp only [Oper.uponIn]
    exact hK _ _ (h.run _ ⟨ha.size, by show _ :: a.defers = _; rw [ha.defers], ha.slot⟩)⟩⟩
theorem df {m : Nat} {ds : List Deferred} {f : FuncId} {g : Operand} {cap : Array Value} {xs : List Operand} {ats : Array TypeId} {vs : List Value} (k : TO E ⟨m, { target := .fn (.func f) cap, args := vs.toArray } :: ds, none⟩ X s ops rest fr A) (hg : ev fr g = some (.func (.func f) #[] cap) := by rfl) (hv : evs fr xs = some vs := by rfl) :
    TO E ⟨m, ds, none⟩ X s ops (⟨none, .defer ⟨.value g, xs.toArray, ats⟩, ty, pos, after, none⟩ :: rest) fr A := ⟨fun w hw => SO_defer hg hv (k.run w hw)⟩
theorem TrD.at {f : FuncId} {vs : List Value} {pre : List Ch} {R : Value → List Ch → Prop} {w : World} (hf : TrD P f vs pre B R) (hs : Fit A B F) (hp : ∀ c ∈ pre, Has F c) (hw : St X A w) : FnD P f vs w fun v w' => ∃ D, R v D ∧ St X (D ++ F) w' := by
  have h1 := hw.im hs
  have h2 := hf.run w (lend h1.sat hp)
  refine ⟨h2.can, fun u => ?_⟩
  obtain ⟨g1, g2⟩ := h2.calls u
  refine ⟨g1, fun c cs hc hr => ?_⟩
  obtain ⟨e, u', w', fr, ⟨q1, v, q2, D, hR, hS, hM, hB⟩, q3⟩ := g2 c cs hc hr
  exact ⟨e, u', w', fr, ⟨q1, v, q2, D, hR, h1.step hM hS hB⟩, q3⟩
/-- At the end, the last deferred call. -/
theorem rD {m : Nat} {ds : List Deferred} {f : FuncId} {fn : Func} {vs : List Value} {cap : Array Value} {pre : List Ch} {w0 : World} {A0 : List Ch} {R R' : Value → List Ch → Prop} (hf : TrD P f (vs ++ cap.toList) pre B R') (k : ∀ v D, R' v D → TX E ⟨m, ds, none⟩ ⟨DP P fn w0 A0 R, w0, A0⟩ [] .ret fr (D ++ F)) (hs : Fit A B F := by first | apply Fit.all | ((repeat (first | (apply Fit.nilN; (repeat (first | apply nrm_nil | apply nrm_cons)); try apply nrm_rfl) | (apply Fit.cons; focus ((repeat (first | apply Tk.here | apply Tk.there)); first | done | fail)))); first | done | fail))
    (hp : ∀ c ∈ pre, Has F c := by (repeat (first | exact has0 | refine has1 (by first | (apply has_vw; (repeat (first | apply List.Mem.head | apply List.Mem.tail)); first | done | fail) | (apply has_own; (repeat (first | apply List.Mem.head | apply List.Mem.tail)); first | done | fail) | (apply has_ro; (repeat (first | apply List.Mem.head | apply List.Mem.tail)); first | done | fail) | apply has_nil | ((with_reducible apply has_el); (focus (first | (apply has_vels; (repeat (first | apply List.Mem.head | apply List.Mem.tail)); first | done | fail) | (apply has_rels; (repeat (first | apply List.Mem.head | apply List.Mem.tail)); first | done | fail))); omega) | (apply has_pt; (repeat (first | apply List.Mem.head | apply List.Mem.tail)); first | done | fail) | (apply has_lpt; (repeat (first | apply List.Mem.head | apply List.Mem.tail)); first | done | fail) | (apply has_vels; (repeat (first | apply List.Mem.head | apply List.Mem.tail)); first | done | fail) | (apply has_rels; (repeat (first | apply List.Mem.head | apply List.Mem.tail)); first | done | fail) | with_reducible assumption | ((with_reducible apply has_elg); (focus (first | (apply has_velg; (repeat (first | apply List.Mem.head | apply List.Mem.tail)); first | done | fail) | (apply has_relg; (repeat (first | apply List.Mem.head | apply List.Mem.tail)); first | done | fail))); omega) | (apply has_velg; (repeat (first | apply List.Mem.head | apply List.Mem.tail)); first | done | fail) | (apply has_relg; (repeat (first | apply List.Mem.head | apply List.Mem.tail)); first | done | fail) | (apply has_vwf; (repeat (first | apply List.Mem.head | apply List.Mem.tail)); first | done | fail)) ?_)); first | done | fail) : TX E ⟨m, { target := .fn (.func f) cap, args := vs.toArray } :: ds, none⟩ ⟨DP P fn w0 A0 R, w0, A0⟩ [] .ret fr A := ⟨fun w hw => ⟨fun a ha => by
  show LeavesIn (FF none) 0 P fn a.tmps (RetP (PR w0 A0 R)) a.defers .returning w
  rw [ha.defers]
  have h1 := hf.at hs hp hw
  have h2 := run_callFunc_fn h1.can (vs ++ cap.toList).toArray w
  have h3 : vs.toArray ++ cap = (vs ++ cap.toList).toArray := by simp
  unfold LeavesIn
  refine ⟨by simp, fun h => (by cases h), .func f, cap, f, (vs ++ cap.toList).toArray, rfl, ?_, fun _ _ => trivial, ?_⟩
  · simp only [invoke, h3]; exact h2
  · obtain ⟨g1, g2⟩ := h1.calls .returning
    refine ⟨g1, fun c cs hc hr => ?_⟩
    obtain ⟨e, u', w', fr', ⟨q1, v, q2, D, hR, hS⟩, q3⟩ := g2 c cs hc hr
    refine ⟨e, u', w', fr', ?_, q3⟩
    subst q1; subst q2
    exact ((k v D hR).run w' hS).run { a with defers := ds } ⟨ha.size, rfl, ha.slot⟩⟩⟩
/-- .. no more. -/
theorem rDn {m : Nat} {fn : Func} {w0 : World} {A0 : List Ch} {R : Value → List Ch → Prop} (h : R v D) (hr : ∀ w, Sat A w → ∀ a, Holds ⟨m, [], none⟩ a fr → (results fn a.tmps).run P w = .ok v w) (hf : Fit A D G := by first | apply Fit.all | ((repeat (first | (apply Fit.nilN; (repeat (first | apply nrm_nil | apply nrm_cons)); try apply nrm_rfl) | (apply Fit.cons; focus ((repeat (first | apply Tk.here | apply Tk.there)); first | done | fail)))); first | done | fail)) (nb : ∀ c ∈ D, ∀ b, ¬ c.bd b := by (repeat (first | exact nb0 | refine nb1 ?_)); first | done | fail) :
    TX E ⟨m, [], none⟩ ⟨DP P fn w0 A0 R, w0, A0⟩ [] .ret fr A := ⟨fun w hw => ⟨fun a ha => by
  show LeavesIn (FF none) 0 P fn a.tmps (RetP (PR w0 A0 R)) a.defers .returning w
  rw [ha.defers]
  unfold LeavesIn
  have h1 := hw.im (Im.trans hf (Im.drop _ _))
  exact ⟨v, hr w hw.sat a ha, v, rfl, D, h, h1.sat, h1.mv, nb⟩⟩⟩
/-- .. the result lies in a cell. -/
theorem rDc {m : Nat} {fn : Func} {w0 : World} {A0 : List Ch} {R : Value → List Ch → Prop} {ct : TypeId} {dt : TypeDesc} {cs : List Value} {T : TypeId} {b j q : Nat} (h : R v D) (hr : fn.results = #[.cell q ct] := by rfl) (ht : lk E.und ct = some dt := by rfl) (hg : aggB dt = false := by rfl) (hv : get fr q = some (.pointer (some ⟨b, j, none⟩)) := by rfl) (hm : pt b cs T ∈ A := by (repeat (first | apply List.Mem.head | apply List.Mem.tail)); first | done | fail) (hc : cs[j]? = some v := by rfl)
    (hf : Fit A D G := by first | apply Fit.all | ((repeat (first | (apply Fit.nilN; (repeat (first | apply nrm_nil | apply nrm_cons)); try apply nrm_rfl) | (apply Fit.cons; focus ((repeat (first | apply Tk.here | apply Tk.there)); first | done | fail)))); first | done | fail)) (nb : ∀ c ∈ D, ∀ b, ¬ c.bd b := by (repeat (first | exact nb0 | refine nb1 ?_)); first | done | fail) : TX E ⟨m, [], none⟩ ⟨DP P fn w0 A0 R, w0, A0⟩ [] .ret fr A :=
  rDn h (fun w hw a ha => res_c (E := E) ha hr ht hg hv (ptcell hw hm hc)) hf nb
/-- A call of a function value that holds its first arguments too. -/
theorem run_callm {f : FuncId} {a : Act} {g : Operand} {first cap : Array Value} {xs : List Operand} {ats : Array TypeId} {vs : List Value} (hg : a.eval g = .func (.func f) first cap) (hv : xs.map a.eval = vs) (hc : Callable P f) (dst : Option Nat) (gd : Option (Nat × Bool)) :
    (execOp a.eval ⟨dst, .call ⟨.value g, xs.toArray, ats⟩, ty, pos, after, gd⟩).run P w = .ok (.enter f (first.toList ++ vs ++ cap.toList).toArray) w := by
  have h1 := run_callFunc_fn hc (first.toList ++ vs ++ cap.toList).toArray w
  have h2 : (Array.map a.eval xs.toArray) = vs.toArray := by simp [hv]
  have h3 : first ++ vs.toArray ++ cap = (first.toList ++ vs ++ cap.toList).toArray := by simp
  simp only [execOp, resolve, h2, hg]
  show (Sem.run P ((Deferred.ofValue (.func (.func f) first cap) vs.toArray).bind fun d => invoke d.target d.args) w) = _
  simp only [Deferred.ofValue]
  rw [List.append_assoc] at h1 h3 ⊢
  simp [invoke, h3, h1, Sem.bind, bind, pure]
theorem cam {f : FuncId} {g : Operand} {first cap : Array Value} {args : List Operand} {ats : Array TypeId} {vs : List Value} {pre : List Ch} {R : Value → List Ch → Prop} (hf : Tr P f (first.toList ++ vs ++ cap.toList) pre B R) (k : ∀ v D, R v D → TO E n X s ops rest ((d, v) :: fr) (D ++ F)) (hg : ev fr g = some (.func (.func f) first cap) := by rfl) (hv : evs fr args = some vs := by rfl) (hs : Fit A B F := by first | apply Fit.all | ((repeat (first | (apply Fit.nilN; (repeat (first | apply nrm_nil | apply nrm_cons)); try apply nrm_rfl) | (apply Fit.cons; focus ((repeat (first | apply Tk.here | apply Tk.there)); first | done | fail)))); first | done | fail))
    (hp : ∀ c ∈ pre, Has F c := by (repeat (first | exact has0 | refine has1 (by first | (apply has_vw; (repeat (first | apply List.Mem.head | apply List.Mem.tail)); first | done | fail) | (apply has_own; (repeat (first | apply List.Mem.head | apply List.Mem.tail)); first | done | fail) | (apply has_ro; (repeat (first | apply List.Mem.head | apply List.Mem.tail)); first | done | fail) | apply has_nil | ((with_reducible apply has_el); (focus (first | (apply has_vels; (repeat (first | apply List.Mem.head | apply List.Mem.tail)); first | done | fail) | (apply has_rels; (repeat (first | apply List.Mem.head | apply List.Mem.tail)); first | done | fail))); omega) | (apply has_pt; (repeat (first | apply List.Mem.head | apply List.Mem.tail)); first | done | fail) | (apply has_lpt; (repeat (first | apply List.Mem.head | apply List.Mem.tail)); first | done | fail) | (apply has_vels; (repeat (first | apply List.Mem.head | apply List.Mem.tail)); first | done | fail) | (apply has_rels; (repeat (first | apply List.Mem.head | apply List.Mem.tail)); first | done | fail) | with_reducible assumption | ((with_reducible apply has_elg); (focus (first | (apply has_velg; (repeat (first | apply List.Mem.head | apply List.Mem.tail)); first | done | fail) | (apply has_relg; (repeat (first | apply List.Mem.head | apply List.Mem.tail)); first | done | fail))); omega) | (apply has_velg; (repeat (first | apply List.Mem.head | apply List.Mem.tail)); first | done | fail) | (apply has_relg; (repeat (first | apply List.Mem.head | apply List.Mem.tail)); first | done | fail) | (apply has_vwf; (repeat (first | apply List.Mem.head | apply List.Mem.tail)); first | done | fail)) ?_)); first | done | fail) (hd : Nat.blt d n.n = true := by rfl) : TO E n X s ops (⟨some d, .call ⟨.value g, args.toArray, ats⟩, ty, pos, after, none⟩ :: rest) fr A :=
  ⟨fun w hw => SO_enter (vs := first.toList ++ vs ++ cap.toList) (fun _ ha => run_callm (ha.ev hg) (ha.evs hv) (hf.at hs hp hw).can _ _) (hf.at hs hp hw) (fun v w' ⟨D, hR, hS⟩ => (k v D hR).run w' hS) (fun _ e => by cases e; exact hd)⟩
end
end Go.Art
set_option linter.unusedSimpArgs false
set_option linter.unusedVariables false
namespace Go.Art
open Go Go.Proofs Go.RowKit

/-- n in w bytes, the high one first. -/
def beB : Nat → Int → List Int
  | 0, _ => []
  | w + 1, n => n / 256 ^ w % 256 :: beB w n
theorem beB_len : ∀ (w : Nat) (n : Int), (beB w n).length = w
  | 0, _ => rfl
  | w + 1, n => by simp [beB, beB_len w n]
theorem beB_in : ∀ (w : Nat) (n : Int), inB (beB w n)
  | 0, _ => inB.nil
  | w + 1, n => inB.cons (by omega) (beB_in w n)
theorem beB_get : ∀ (w : Nat) (n : Int) (i : Nat), i < w → (beB w n).getD i 0 = n / 256 ^ (w - 1 - i) % 256
  | w + 1, n, 0, _ => by simp [beB]
  | w + 1, n, i + 1, h => by
    have := beB_get w n i (by omega)
    simp only [beB, List.getD_cons_succ]
    rw [this, show w + 1 - 1 - (i + 1) = w - 1 - i by omega]
theorem beB_drop : ∀ (k w : Nat) (n : Int), (beB (k + w) n).drop k = beB w n
  | 0, w, n => by simp
  | k + 1, w, n => by
    rw [show k + 1 + w = (k + w) + 1 by omega]
    simp only [beB, List.drop_succ_cons]
    exact beB_drop k w n
/-- The array, of which i bytes are laid, from its end on. -/
def bePart (n : Int) (i : Nat) : List Int := List.replicate (8 - i) 0 ++ beB i n
theorem bePart_len (n : Int) {i : Nat} (h : i ≤ 8) : (bePart n i).length = 8 := by unfold bePart; rw [List.length_append, List.length_replicate, beB_len]; omega
theorem bePart_set (n : Int) {i : Nat} (h : i < 8) : (bePart n i).set (7 - i) (n / 256 ^ i % 256) = bePart n (i + 1) := by
  unfold bePart
  rw [List.set_append_left _ _ (by simp; omega)]
  rw [show 8 - i = (7 - i) + 1 by omega, List.replicate_succ', List.set_append_right _ _ (by simp)]
  simp only [List.length_replicate, Nat.sub_self, List.set_cons_zero, List.append_assoc, List.singleton_append]
  rw [show 8 - (i + 1) = 7 - i by omega]
  rfl
section
variable {P : Program} {E : Env P} {n : Sh} {X : Cx} {s : List K} {fr : Fr} {A A' : List Ch} {ops : Array Oper} {rest : List Oper} {d m b lo : Nat} {ty t t' el T : TypeId} {pos : String} {after : Array Edge} {x y : Operand} {z : Value} {by_ : Nat} {w : World} {k1 : IntKind} {cs : List Value}
theorem u8m {m : Int} (k : TO E n X s ops rest ((d, y8 (m % 256)) :: fr) A) (h : evOp E fr (.convert t t' x) = some (.int .u8 (IntKind.u8.wrap m)) := by rfl) (hd : Nat.blt d n.n = true := by rfl) :
    TO E n X s ops (⟨some d, .convert t t' x, ty, pos, after, none⟩ :: rest) fr A := TO.val (fun _ _ => by
      have e : IntKind.u8.wrap m = m % 256 := by simp [IntKind.wrap, IntKind.bits, IntKind.signed]
      have := R_auto (P := P) (n := n) (w := ‹World›) (ty := ty) h; rwa [e] at this) k hd
/-- A piece of an array that lies in memory, as a slice. -/
theorem R_slArrLo {m lo : Nat} (hlo : lo ≤ m) (ht : lk E.und t = some (.array m el)) (he : lk E.inf el = some (z, 1, by_)) (hx : ev fr x = some (.pointer (some ⟨b, 0, none⟩))) (hy : ev fr y = some (.int k1 (lo : Int))) :
    OpV P n fr (.slice t x (some y) none none) ty w (.slice (some ⟨b, if m = lo then 0 else lo, none⟩) (m - lo) (m - lo)) w := ⟨fun a ha _ _ _ _ => by
  obtain ⟨inf, hi, _, hsz, _⟩ := E.info he
  have hb : (Instr.sliceBound (.int k1 (lo : Int)) m .sliceB).run P w = .ok lo w := by
    have : (0 : Int) ≤ (lo : Int) ∧ (lo : Int) ≤ (m : Int) := by omega
    simp [Instr.sliceBound, asIntOf, this]
  simp only [execOp, ha.ev hx]
  by_cases e : m = lo
  · subst e
    simp [Instr.sliceAt, run_underlying (P := P) (E.un ht) w, Instr.sliceBounds, Instr.sureAddr, sizeOf, typeInfo, hi, hsz, Addr.add, ha.ev hy, hb]
  · by_cases e2 : lo = 0
    · subst e2
      simp only [Int.natCast_zero] at hb hy
      simp [Instr.sliceAt, run_underlying (P := P) (E.un ht) w, Instr.sliceBounds, Instr.sureAddr, sizeOf, typeInfo, hi, hsz, Addr.add, ha.ev hy, hb, e]
    · simp [Instr.sliceAt, run_underlying (P := P) (E.un ht) w, Instr.sliceBounds, Instr.sureAddr, sizeOf, typeInfo, hi, hsz, Addr.add, ha.ev hy, hb, e, e2]⟩
theorem R_slArrLt {m lo : Nat} {i : Int} (ht : lk E.und t = some (.array m el)) (he : lk E.inf el = some (z, 1, by_)) (hx : ev fr x = some (.pointer (some ⟨b, 0, none⟩))) (hy : ev fr y = some (.int k1 i)) (hi : i = (lo : Int)) (hlo : lo < m) :
    OpV P n fr (.slice t x (some y) none none) ty w (.slice (some ⟨b, lo, none⟩) (m - lo) (m - lo)) w := by
  subst hi
  have := R_slArrLo (P := P) (n := n) (ty := ty) (w := w) (Nat.le_of_lt hlo) ht he hx hy
  rwa [if_neg (by omega)] at this
theorem R_idxQ {m j : Nat} {i : Int} (ht : lk E.und t = some (.array m el)) (he : lk E.inf el = some (z, 1, by_)) (hx : ev fr x = some (.pointer (some ⟨b, 0, none⟩))) (hy : ev fr y = some (.int k1 i)) (hi : i = (j : Int)) (hj : j < m) :
    OpV P n fr (.indexAddr t x y) ty w (.pointer (some ⟨b, j, none⟩)) w := by
  subst hi
  exact R_idxZ ht he hx hy hj
theorem has_ptsl {F : List Ch} {hi cap : Nat} (h : pt b cs T ∈ F) (h1 : lo ≤ hi) (h2 : hi ≤ cs.length) (h3 : hi - lo ≤ cap) (h4 : cap ≤ maxLen) : Has F (vw (.slice (some ⟨b, lo, none⟩) (hi - lo) cap) ((cs.take hi).drop lo)) :=
by
  refine ⟨fun w hw => ?_, fun _ h => h, fun _ h => h, fun x hx => ⟨_, h, ?_⟩⟩
  · have hl : ((cs.take hi).drop lo).length = hi - lo := by simp; omega
    refine ⟨_, cap, by rw [hl], by rw [hl]; exact h3, h4, fun i u hu => ⟨_, rfl, ?_⟩⟩
    rw [Addr.add_lit]
    refine blk_cell (hw.h (pt b cs T) h) ?_
    rw [List.getElem?_drop, List.getElem?_take] at hu
    split at hu
    · rw [List.getElem?_toArray]; exact hu
    · cases hu
  · rcases hx with hx | hx | hx
    · exact hx.elim
    · exact hx.elim
    · obtain ⟨_, e⟩ := hx; cases e; exact .inl rfl
end
theorem lpt_at {A : List Ch} {w : World} {b : Nat} {cs : List Value} {T : TypeId} (h : lpt b cs T ∈ A) (hw : Sat A w) : w.heap[b]? = some (.cells cs.toArray T (0, 0)) := hw.h (lpt b cs T) h
theorem be_sl (n : Int) {w : Nat} (h : w ≤ 8) : ((By (bePart n 8)).take 8).drop (8 - w) = By (beB w n) := by
  have e : bePart n 8 = beB 8 n := by unfold bePart; simp
  rw [e, List.take_of_length_le (by rw [By_len, beB_len]; omega), ← List.map_drop]
  have := beB_drop (8 - w) w n
  rw [show 8 - w + w = 8 by omega] at this
  rw [this]
theorem pow_256 (n : Int) (i : Nat) : n / 2 ^ (8 * (i : Int)).toNat = n / 256 ^ i := by
  have e : (8 * (i : Int)).toNat = 8 * i := by omega
  have e2 : (2 : Int) ^ (8 * i) = 256 ^ i := by
    have := Nat.pow_mul 2 8 i
    have h2 := congrArg (fun x : Nat => (x : Int)) this
    simpa [Int.natCast_pow] using h2
  rw [e, e2]
end Go.Art
set_option linter.unusedSimpArgs false
set_option linter.unusedVariables false
namespace Go.Art
open Go Go.Proofs Go.RowKit
section
variable {P : Program} {E : Env P} {n : Sh} {X : Cx} {s : List K} {fr : Fr} {A A' : List Ch} {ops : Array Oper} {rest : List Oper} {d : Nat} {ty t : TypeId} {pos : String} {after : Array Edge} {x y : Operand} {v u z : Value} {by_ : Nat} {l news : List Int}
theorem apb {e : TypeId} (k : ∀ v', v'.oneCell' = true → TO E n X s ops rest ((d, v') :: fr) (own e v' (By (l ++ news)) :: A')) (hx : ev fr x = some v := by rfl) (hy : ev fr y = some u := by rfl) (hm : Tk (own e v (By l)) A A' := by (repeat (first | apply Tk.here | apply Tk.there)); first | done | fail) (hu : Has A' (vw u (By news)) := by first | (apply has_vw; (repeat (first | apply List.Mem.head | apply List.Mem.tail)); first | done | fail) | (apply has_own; (repeat (first | apply List.Mem.head | apply List.Mem.tail)); first | done | fail) | (apply has_ro; (repeat (first | apply List.Mem.head | apply List.Mem.tail)); first | done | fail) | apply has_nil | ((with_reducible apply has_el); (focus (first | (apply has_vels; (repeat (first | apply List.Mem.head | apply List.Mem.tail)); first | done | fail) | (apply has_rels; (repeat (first | apply List.Mem.head | apply List.Mem.tail)); first | done | fail))); omega) | (apply has_pt; (repeat (first | apply List.Mem.head | apply List.Mem.tail)); first | done | fail) | (apply has_lpt; (repeat (first | apply List.Mem.head | apply List.Mem.tail)); first | done | fail) | (apply has_vels; (repeat (first | apply List.Mem.head | apply List.Mem.tail)); first | done | fail) | (apply has_rels; (repeat (first | apply List.Mem.head | apply List.Mem.tail)); first | done | fail) | with_reducible assumption | ((with_reducible apply has_elg); (focus (first | (apply has_velg; (repeat (first | apply List.Mem.head | apply List.Mem.tail)); first | done | fail) | (apply has_relg; (repeat (first | apply List.Mem.head | apply List.Mem.tail)); first | done | fail))); omega) | (apply has_velg; (repeat (first | apply List.Mem.head | apply List.Mem.tail)); first | done | fail) | (apply has_relg; (repeat (first | apply List.Mem.head | apply List.Mem.tail)); first | done | fail) | (apply has_vwf; (repeat (first | apply List.Mem.head | apply List.Mem.tail)); first | done | fail))
    (hl : l.length + news.length ≤ 17592186044416 := by first | omega | (simp only [List.length_append, List.length_cons, List.length_nil]; omega)) (ht : lk E.und t = some (.slice e) := by rfl) (he : lk E.inf e = some (z, 1, by_) := by rfl) (hz : z.cells.size = 1 := by rfl) (hb : by_ ≤ 8 := by decide)
    (hd : Nat.blt d n.n = true := by rfl) : TO E n X s ops (⟨some d, .call ⟨.builtin .append, #[x, y], #[t, t]⟩, ty, pos, after, none⟩ :: rest) fr A :=
  ap (fun v' => by
    have := fun h => k v' h
    rw [By, List.map_append] at this
    exact TO.one (v := v') (xs := By l ++ By news) (fun h => this h) (by first | (apply has_vw; (repeat (first | apply List.Mem.head | apply List.Mem.tail)); first | done | fail) | (apply has_own; (repeat (first | apply List.Mem.head | apply List.Mem.tail)); first | done | fail) | (apply has_ro; (repeat (first | apply List.Mem.head | apply List.Mem.tail)); first | done | fail) | apply has_nil | ((with_reducible apply has_el); (focus (first | (apply has_vels; (repeat (first | apply List.Mem.head | apply List.Mem.tail)); first | done | fail) | (apply has_rels; (repeat (first | apply List.Mem.head | apply List.Mem.tail)); first | done | fail))); omega) | (apply has_pt; (repeat (first | apply List.Mem.head | apply List.Mem.tail)); first | done | fail) | (apply has_lpt; (repeat (first | apply List.Mem.head | apply List.Mem.tail)); first | done | fail) | (apply has_vels; (repeat (first | apply List.Mem.head | apply List.Mem.tail)); first | done | fail) | (apply has_rels; (repeat (first | apply List.Mem.head | apply List.Mem.tail)); first | done | fail) | with_reducible assumption | ((with_reducible apply has_elg); (focus (first | (apply has_velg; (repeat (first | apply List.Mem.head | apply List.Mem.tail)); first | done | fail) | (apply has_relg; (repeat (first | apply List.Mem.head | apply List.Mem.tail)); first | done | fail))); omega) | (apply has_velg; (repeat (first | apply List.Mem.head | apply List.Mem.tail)); first | done | fail) | (apply has_relg; (repeat (first | apply List.Mem.head | apply List.Mem.tail)); first | done | fail) | (apply has_vwf; (repeat (first | apply List.Mem.head | apply List.Mem.tail)); first | done | fail))) hx hy hm hu (By_one news) ht he hz (by rw [By_len, By_len]; have := Nat.mul_le_mul hl hb; omega) (by rw [By_len, By_len]; omega) hd
end
attribute [local irreducible] Fit pt own ro vw mpc lpt vels rels mow lrc dfr
attribute [local irreducible] lmp lme mit velg relg
abbrev TWr : TypeId := 141
abbrev TpW : TypeId := 101
abbrev TErn : TypeId := 32
abbrev wrP (p : Nat) (bv : Value) (mx e : Int) (l : List Int) : List Ch := [pt p [bv, .bool true, I mx, I e] TWr, own TyB bv (By l)]
theorem wnone_tr (p : Nat) (bv x y : Value) : Tr Tryz.prog 82 [ptr p] [lpt p [bv, .bool true, x, y] TWr] [] fun v D => v = .bool false ∧ D = [] := by
  refine Tr.enter env _ Tryz.func82 (by kernel_rfl) rfl Tryz.ntmps82 rfl (by repeat (first | exact has00 | refine has01 ?_)) fun w0 => ?_
  repeat' first|(refine wo ?_; first|(refine ao ?_; first|refine ipe ?_)|refine oa ?_|refine ldl ?_|refine gy ?_)|refine sq ?_|refine rg ?_|refine xc ?_|refine nl ?_|refine rt ?_
  exact r1 ⟨rfl, rfl⟩
theorem NewWriter_tr (mx : Int) (hm : 0 ≤ mx ∧ mx ≤ 100000) : Tr Tryz.prog 57 [I mx] [] [] fun v D => ∃ p, v = tup2 (ptr p) (I 0) ∧ D = wrP p nS mx 0 [] := by
  refine Tr.enter env _ Tryz.func57 (by kernel_rfl) rfl Tryz.ntmps57 rfl (by repeat (first | exact has00 | refine has01 ?_)) fun w0 => ?_
  repeat' first|refine bdz ?_|refine bdg ?_|refine bx fun p => ?_|(refine wo ?_; first|(refine ao ?_; first|refine oa ?_)|refine oa ?_|refine gy ?_|(refine gsi (fun hB => ?_) (fun hB => ?_) <;> try (exfalso; omega)))|(refine gc ?_; first|(refine ci (fun hB => ?_) (fun hB => ?_) <;> try (exfalso; omega)))|refine sq ?_|refine rg ?_|refine xc ?_|refine nl ?_|refine sk ?_|refine rt ?_
  refine TX.im (own_nil TyB _) ?_
  rename_i p
  exact r2 ⟨p, rfl, rfl⟩
theorem lay_tr (p : Nat) (bv b : Value) (mx e : Int) (l m : List Int) (hm : (l.length : Int) + m.length ≤ mx ∧ mx ≤ 100000) : Tr Tryz.prog 80 [ptr p, b] [vw b (By m)] (wrP p bv mx e l)
    fun v D => v = I 0 ∧ ∃ bv', bv'.oneCell' = true ∧ D = wrP p bv' mx e (l ++ m) := by
  refine Tr.enter env _ Tryz.func80 (by kernel_rfl) rfl Tryz.ntmps80 rfl (by repeat (first | exact has00 | refine has01 ?_)) fun w0 => ?_
  repeat' first|refine apb fun bv2 hbv => ?_|(refine wo ?_; first|refine oa ?_|refine ld ?_|refine sr ?_)|(refine gc ?_; first|(refine ci (fun hB => ?_) (fun hB => ?_) <;> try (exfalso; omega)))|refine sq ?_|refine rg ?_|refine xc ?_|refine nl ?_|refine sk ?_|refine rt ?_|refine rq ?_|refine nq ?_|(refine wq ?_; first|(refine qao ?_; first|refine qaw ?_|refine qa ?_)|refine qa ?_|refine qld ?_|refine qlnm ?_)
  exact r1 ⟨rfl, _, by assumption, rfl⟩
theorem does1_tr (p e0 q : Nat) (bv : Value) (mx ep er : Int) : TrD Tryz.prog 99 [ptr e0, ptr q] [lpt e0 [I er] TErn, lpt q [ptr p] TpW] [pt p [bv, .bool true, I mx, I ep] TWr] fun _ D => D = [pt p [bv, .bool true, I mx, I er] TWr] := by
  refine TrD.enter env _ Tryz.func99 (by kernel_rfl) rfl Tryz.ntmps99 rfl (by (repeat (first | exact has00 | refine has01 ?_)); first | done | fail) fun w0 => ?_
  repeat' first|(refine wo ?_; first|refine oa ?_|refine ldl ?_|refine sr ?_)|refine rg ?_|refine nl ?_
  exact Go.Art.e0 rfl
/-- What a step of the writer's does. -/
abbrev WrS (f : FuncId) (cap : Array Value) (pre : List Ch) (p : Nat) (bv : Value) (mx : Int) (l l' : List Int) : Prop := Tr Tryz.prog f cap.toList pre (wrP p bv mx 0 l) fun v D => v = I 0 ∧ ∃ bv', bv'.oneCell' = true ∧ D = wrP p bv' mx 0 l'
theorem does_tr (p : Nat) (bv : Value) (mx : Int) (l l' : List Int) (f : FuncId) (cap : Array Value) (pre : List Ch) (hw : WrS f cap pre p bv mx l l') (hp : ∀ c ∈ pre, ∀ A : List Ch, c ∈ A → Has A c) :
    Tr Tryz.prog 78 [ptr p, .func (.func f) #[] cap] pre (wrP p bv mx 0 l) fun v D => v = I 0 ∧ ∃ bv', bv'.oneCell' = true ∧ D = wrP p bv' mx 0 l' := by
  refine Tr.enterD env _ Tryz.func78 (by kernel_rfl) rfl Tryz.ntmps78 rfl (fun c hc b => ⟨(hp c hc [c] (by simp)).wr b, (hp c hc [c] (by simp)).rd b⟩) fun w0 => ?_
  refine TC.im (B := pt p [bv, .bool true, I mx, I 0] TWr :: own TyB bv (By l) :: pre) (Im.perm List.perm_append_comm) ?_
  repeat' first|(refine gca ?_; first|(refine ca (wnone_tr p bv _ _) ?_; rintro _ _ ⟨rfl, rfl⟩))|refine bx1 fun q => ?_|refine al fun e0 => ?_|refine df ?_|(refine cav (vs := []) (cap := cap) hw ?_ (hp := fun c hc => hp c hc _ (by simp [hc])); rintro _ _ ⟨rfl, bv', hb', rfl⟩)|(refine wo ?_; first|(refine ao ?_; first|refine oa ?_)|refine oa ?_|refine ld ?_|refine sr ?_)|(refine gc ?_; first|refine cf ?_)|refine sq ?_|refine rg ?_|refine xc ?_|refine nl ?_|refine sk ?_|refine rt ?_
  refine rD (vs := []) (does1_tr p e0 q bv' mx 0 0) ?_
  rintro _ _ rfl
  exact rDc ⟨rfl, bv', hb', rfl⟩
theorem Put1_tr (p c1 c2 c3 : Nat) (bv : Value) (mx n : Int) (wd : Nat) (l : List Int) (hw : wd = 1 ∨ wd = 2 ∨ wd = 4 ∨ wd = 8) (hn : 0 ≤ n ∧ n < 256 ^ wd) (hm : (l.length : Int) + wd ≤ mx ∧ mx ≤ 100000) :
    WrS 79 #[ptr c1, ptr c2, ptr c3] [lpt c1 [I wd] 3, lpt c2 [I n] 3, lpt c3 [ptr p] TpW] p bv mx l (l ++ beB wd n) := by
  have hwt : Tr Tryz.prog 72 [I wd] [] [] fun v D => v = .bool true ∧ D = [] := by
    refine Tr.enter env _ Tryz.func72 (by kernel_rfl) rfl Tryz.ntmps72 rfl (by repeat (first | exact has00 | refine has01 ?_)) fun w0 => ?_
    rcases hw with rfl | rfl | rfl | rfl
    all_goals
      repeat' first|(refine wo ?_; first|(refine ao ?_; first|refine oa ?_)|refine oa ?_|refine gy ?_|refine gn ?_)|refine sq ?_|refine rg ?_|refine xc ?_|refine nl ?_|refine rt ?_
      exact r1 ⟨rfl, rfl⟩
  have hz : n / 2 ^ (8 * (wd : Int)).toNat = 0 := by rw [pow_256]; exact Int.ediv_eq_zero_of_lt hn.1 hn.2
  have hw8 : 1 ≤ wd ∧ wd ≤ 8 := by omega
  have hn9 : 0 ≤ n := hn.1
  clear hw
  refine Tr.enter env _ Tryz.func79 (by kernel_rfl) rfl Tryz.ntmps79 rfl (by repeat (first | exact has00 | refine has01 ?_)) fun w0 => ?_
  repeat' first|(refine gca ?_; first|(refine ca hwt ?_; rintro _ _ ⟨rfl, rfl⟩))|refine al fun q => ?_|(refine wo ?_; first|(refine ao ?_; first|refine aw ?_|refine oa ?_|refine shr ?_)|refine oa ?_|refine ldl ?_|refine gy ?_|(refine gsi (fun hB => ?_) (fun hB => ?_) <;> try (exfalso; omega)))|(refine gc ?_; first|refine cf ?_|(refine ci (fun hB => ?_) (fun hB => ?_) <;> try (exfalso; omega)))|refine sq ?_|refine rg ?_|refine xc ?_|refine nl ?_|refine sk ?_|refine bk ?_|refine xb ?_
  refine TC.loop (ι := Nat) (fun i => [(20, I i)]) (fun i => [pt q (By (bePart n i)) 143]) (fun i => i ≤ 8) (fun i => 8 - i) 0 [0, 1, 2, 4] (by omega) ?_
  intro i hi
  by_cases h8 : i < 8
  · have hpw := pow_256 n i
    repeat' first|refine u8m ?_|(refine wo ?_; first|(refine ao ?_; first|refine aw ?_|refine oa ?_|refine shr ?_)|refine oa ?_|refine ldl ?_)|(refine gc ?_; first|(refine ci (fun hB => ?_) (fun hB => ?_) <;> try (exfalso; omega)))|refine sq ?_|refine rg ?_|refine xc ?_|refine nl ?_|refine sk ?_|refine bk ?_
    rw [hpw]
    refine TO.val (v := .pointer (some ⟨q, 7 - i, none⟩)) (fun w _ => by exact R_idxQ (E := env) rfl rfl rfl rfl (by omega) (by omega)) ?_
    refine sr (b := q) (j := 7 - i) (cs := By (bePart n i)) (cs' := By (bePart n (i + 1))) (T := 143) (v := y8 (n / 256 ^ i % 256)) ?_ (hs := by rw [← bePart_set n h8, By_set]; exact SetAt.of _ _ _ (by rw [By_len, bePart_len n hi]; omega))
    repeat' first|(refine wo ?_; first|(refine ao ?_; first|refine aw ?_)|refine oa ?_)|refine rg ?_|refine xc ?_|refine nl ?_|refine xb ?_
    exact lp (i + 1) (by omega)
  · obtain rfl : i = 8 := by omega
    repeat' first|refine rs (id := 11) (fun w => w.heap[c3]? = some (.cells [ptr p].toArray TpW (0, 0)) ∧ w.heap[c1]? = some (.cells [I wd].toArray 3 (0, 0))) ?_ (fun w hw => ⟨lpt_at (by (repeat (first | apply List.Mem.head | apply List.Mem.tail)); first | done | fail) hw, lpt_at (by (repeat (first | apply List.Mem.head | apply List.Mem.tail)); first | done | fail) hw⟩)|(refine wo ?_; first|(refine ao ?_; first|refine oa ?_))|(refine gc ?_; first|refine cf ?_)|refine sq ?_|refine rg ?_|refine xc ?_|refine nl ?_|refine xe ?_
    refine tkl 0 (cs := [ptr p]) (fun w h => h.1) ?_
    refine tkl 1 (cs := [I wd]) (fun w h => h.2) ?_
    refine tkw 2 ((8 - wd : Nat) : Int) ?_
    refine tk 3 (v := .slice (some ⟨q, 8 - wd, none⟩) (8 - (8 - wd)) (8 - (8 - wd))) (hi := rfl) (fun w h => by exact R_slArrLt (E := env) rfl rfl rfl rfl rfl (by omega)) ?_
    refine t1 4 ?_
    have hsl := be_sl n hw8.2
    refine ca (lay_tr p bv _ mx 0 l (beB wd n) (by rw [beB_len]; omega)) ?_ (hp := has1 (by rw [← hsl]; exact has_ptsl (by (repeat (first | apply List.Mem.head | apply List.Mem.tail)); first | done | fail) (by omega) (by rw [By_len, bePart_len n (by omega)]; omega) (Nat.le_refl _) (by unfold maxLen; omega)) has0)
    rintro _ _ ⟨rfl, bv2, hb2, rfl⟩
    refine nl ?_
    refine te (fun w hw => ⟨lpt_at (by (repeat (first | apply List.Mem.head | apply List.Mem.tail)); first | done | fail) hw, lpt_at (by (repeat (first | apply List.Mem.head | apply List.Mem.tail)); first | done | fail) hw⟩) ?_
    refine tka 5 ?_
    refine t0 ?_
    repeat' first|refine xc ?_|refine rt ?_
    exact r1 ⟨rfl, bv2, hb2, rfl⟩
theorem Put_tr (p : Nat) (bv : Value) (mx n : Int) (wd : Nat) (l : List Int) (hw : wd = 1 ∨ wd = 2 ∨ wd = 4 ∨ wd = 8) (hn : 0 ≤ n ∧ n < 256 ^ wd) (hm : (l.length : Int) + wd ≤ mx ∧ mx ≤ 100000) :
    Tr Tryz.prog 58 [ptr p, I wd, I n] [] (wrP p bv mx 0 l) fun v D => v = I 0 ∧ ∃ bv', bv'.oneCell' = true ∧ D = wrP p bv' mx 0 (l ++ beB wd n) := by
  refine Tr.enter env _ Tryz.func58 (by kernel_rfl) rfl Tryz.ntmps58 rfl (by repeat (first | exact has00 | refine has01 ?_)) fun w0 => ?_
  repeat' first|refine bx1 fun c => ?_|(refine wo ?_; first|refine oa ?_|refine ld ?_)|refine sq ?_|refine rg ?_|refine xc ?_|refine nl ?_
  rename_i c3 c1
  refine ca (does_tr p bv mx l (l ++ beB wd n) _ #[ptr c1, ptr c, ptr c3] _ (Put1_tr p c1 c c3 bv mx n wd l hw hn hm) (hpl_lpt (hpl_lpt (hpl_lpt hpl_nil)))) ?_
  rintro _ _ ⟨rfl, bv2, hb2, rfl⟩
  repeat' first|(refine wo ?_; first|refine oa ?_)|refine xc ?_|refine nl ?_|refine rt ?_
  exact r1 ⟨rfl, bv2, hb2, rfl⟩
theorem Raw1_tr (p c1 c2 : Nat) (bv b : Value) (mx : Int) (l m : List Int) (hm : (l.length : Int) + m.length ≤ mx ∧ mx ≤ 100000) :
    WrS 81 #[ptr c1, ptr c2] [lpt c1 [ptr p] TpW, lpt c2 [b] 25, vw b (By m)] p bv mx l (l ++ m) := by
  refine Tr.enter env _ Tryz.func81 (by kernel_rfl) rfl Tryz.ntmps81 rfl (by repeat (first | exact has00 | refine has01 ?_)) fun w0 => ?_
  repeat' first|(refine gca ?_; first|(refine ca (lay_tr p bv b mx 0 l m hm) ?_; rintro _ _ ⟨rfl, bv2, hb2, rfl⟩))|(refine wo ?_; first|refine oa ?_|refine ldl ?_)|refine sq ?_|refine rg ?_|refine xc ?_|refine nl ?_|refine rt ?_
  exact r1 ⟨rfl, bv2, hb2, rfl⟩
theorem Raw_tr (p : Nat) (bv b : Value) (mx : Int) (l m : List Int) (hb1 : b.oneCell' = true) (hm : (l.length : Int) + m.length ≤ mx ∧ mx ≤ 100000) :
    Tr Tryz.prog 59 [ptr p, b] [vw b (By m)] (wrP p bv mx 0 l) fun v D => v = I 0 ∧ ∃ bv', bv'.oneCell' = true ∧ D = wrP p bv' mx 0 (l ++ m) := by
  refine Tr.enter env _ Tryz.func59 (by kernel_rfl) rfl Tryz.ntmps59 rfl (by repeat (first | exact has00 | refine has01 ?_)) fun w0 => ?_
  repeat' first|refine bx1 fun c => ?_|(refine wo ?_; first|refine oa ?_|refine ld ?_)|refine sq ?_|refine rg ?_|refine xc ?_|refine nl ?_
  rename_i c1
  refine ca (does_tr p bv mx l (l ++ m) _ #[ptr c1, ptr c] _ (Raw1_tr p c1 c bv b mx l m hm) (hpl_lpt (hpl_lpt (hpl_vw hpl_nil)))) ?_
  rintro _ _ ⟨rfl, bv2, hb2, rfl⟩
  repeat' first|(refine wo ?_; first|refine oa ?_)|refine xc ?_|refine nl ?_|refine rt ?_
  exact r1 ⟨rfl, bv2, hb2, rfl⟩
theorem Bytes_tr (p : Nat) (bv : Value) (mx : Int) (l : List Int) (hm : l.length ≤ 1099511627776) : Tr Tryz.prog 60 [ptr p] [lpt p [bv, .bool true, I mx, I 0] TWr, vw bv (By l)] []
    fun v D => ∃ o, v = tup2 o (I 0) ∧ o.oneCell' = true ∧ D = [own TyB o (By l)] := by
  refine Tr.enter env _ Tryz.func60 (by kernel_rfl) rfl Tryz.ntmps60 rfl (by repeat (first | exact has00 | refine has01 ?_)) fun w0 => ?_
  repeat' first|(refine gca ?_; first|(refine ca (wnone_tr p bv _ _) ?_; rintro _ _ ⟨rfl, rfl⟩)|(refine ca (Clone_tr bv l hm) ?_; rintro o _ ⟨ho, rfl⟩))|(refine wo ?_; first|(refine ao ?_; first|refine oa ?_)|refine oa ?_|refine ldl ?_)|(refine gc ?_; first|refine cf ?_)|refine sq ?_|refine rg ?_|refine xc ?_|refine nl ?_|refine sk ?_|refine bk ?_|refine rt ?_|refine xb ?_
  exact r2 ⟨o, rfl, ho, rfl⟩
end Go.Art
set_option linter.unusedSimpArgs false
set_option linter.unusedVariables false
namespace Go.Art
open Go Go.Proofs Go.RowKit

abbrev c32 (m : Int) : Value := .int .u32 m
def x32 (p q : Int) : Int := ((BitVec.ofInt 32 p ^^^ BitVec.ofInt 32 q).toNat : Int)
def a32 (p q : Int) : Int := ((BitVec.ofInt 32 p &&& BitVec.ofInt 32 q).toNat : Int)
theorem wrap_u32 (n : Int) : IntKind.u32.wrap n = ((BitVec.ofInt 32 n).toNat : Int) := by
  have : IntKind.u32.wrap n = n % 4294967296 := by simp [IntKind.wrap, IntKind.bits, IntKind.signed]
  rw [this, BitVec.toNat_ofInt]; omega
theorem ofInt32 (p : BitVec 32) : BitVec.ofInt 32 (p.toNat : Int) = p := by
  rw [BitVec.ofInt_natCast]; exact BitVec.ofNat_toNat _ _ |>.trans (by simp)
theorem x32_pos (p q : Int) : 0 ≤ x32 p q := by unfold x32; omega
def stepE (x : Int) : Int := x32 (x / 2) (IntKind.u32.wrap (3988292384 * a32 x 1))
def stepN : Nat → Int → Int
  | 0, x => x
  | n + 1, x => stepE (stepN n x)
def tabE (i : Nat) : Int := stepN 8 (IntKind.u32.wrap i)
theorem stepN_pos {x : Int} (h : 0 ≤ x) : ∀ n, 0 ≤ stepN n x
  | 0 => h
  | _ + 1 => x32_pos _ _
def tabP (k : Nat) : List Value := (List.range 256).map fun i => c32 (if i < k then tabE i else 0)
theorem tabP_len (k : Nat) : (tabP k).length = 256 := by unfold tabP; rw [List.length_map, List.length_range]
theorem tabP_get (k : Nat) {i : Nat} (h : i < 256) : (tabP k)[i]? = some (c32 (if i < k then tabE i else 0)) := by unfold tabP; rw [List.getElem?_map, List.getElem?_range h]; rfl
theorem tabP_zero : tabP 0 = List.replicate 256 (c32 0) := by
  refine List.ext_getElem? fun i => ?_
  by_cases h : i < 256
  · rw [tabP_get 0 h, if_neg (Nat.not_lt_zero _), List.getElem?_replicate, if_pos h]
  · rw [List.getElem?_eq_none (by rw [tabP_len]; omega), List.getElem?_eq_none (by rw [List.length_replicate]; omega)]
theorem tabP_set {k : Nat} (h : k < 256) : (tabP k).set k (c32 (tabE k)) = tabP (k + 1) := by
  refine List.ext_getElem? fun i => ?_
  rw [List.getElem?_set]
  by_cases h2 : i < 256
  · rw [tabP_get (k + 1) h2, tabP_get k h2]
    by_cases e : k = i
    · subst e; rw [if_pos rfl, if_pos (by rw [tabP_len]; exact h), if_pos (by omega)]
    · rw [if_neg e]
      by_cases e2 : i < k
      · rw [if_pos e2, if_pos (by omega)]
      · rw [if_neg e2, if_neg (by omega)]
  · rw [List.getElem?_eq_none (by rw [tabP_len]; omega), List.getElem?_eq_none (by rw [tabP_len]; omega), if_neg (by omega)]
theorem tabP_all {i : Nat} (h : i < 256) : (tabP 256)[i]? = some (c32 (tabE i)) := by rw [tabP_get 256 h, if_pos h]
theorem tabP_one (k : Nat) : ∀ v ∈ tabP k, v.oneCell' = true := fun v hv => by
  unfold tabP at hv
  obtain ⟨i, _, rfl⟩ := List.mem_map.1 hv
  rfl
def crcS (x c : Int) : Int := x32 (x / 2 ^ 8) (tabE (bxr (x % 256) c).toNat)
def crcN (l : List Int) : Int := l.foldl crcS 4294967295
def crcF (l : List Int) : Int := x32 4294967295 (crcN l)
theorem crcF_pos (l : List Int) : 0 ≤ crcF l := x32_pos _ _
theorem crcN_snoc (l : List Int) (c : Int) : crcN (l ++ [c]) = crcS (crcN l) c := by unfold crcN; rw [List.foldl_append]; rfl
theorem crcN_pos (l : List Int) : 0 ≤ crcN l := by
  rcases List.eq_nil_or_concat l with rfl | ⟨m, c, rfl⟩
  · decide
  · rw [List.concat_eq_append, crcN_snoc]; exact x32_pos _ _
/-- The four bytes behind a packet's. -/
def crcB (l : List Int) : List Int := (List.range 4).map fun i => crcF l / 256 ^ i % 256
def sealF (l : List Int) : List Int := l ++ crcB l
theorem crcB_len (l : List Int) : (crcB l).length = 4 := by unfold crcB; simp
theorem crcB_in (l : List Int) : inB (crcB l) := fun x hx => by
  unfold crcB at hx
  obtain ⟨i, _, rfl⟩ := List.mem_map.1 hx
  omega
theorem sealF_len (l : List Int) : (sealF l).length = l.length + 4 := by unfold sealF; rw [List.length_append, crcB_len]
theorem sealF_in {l : List Int} (h : inB l) : inB (sealF l) := h.app (crcB_in l)
section
variable {P : Program} {E : Env P} {n : Sh} {X : Cx} {s : List K} {fr : Fr} {A A' G D : List Ch} {ops : Array Oper} {rest : List Oper} {d : Nat} {ty t t' T : TypeId} {pos : String} {after : Array Edge} {x y : Operand} {w : World} {p q : Int}
theorem R_x32 (hx : ev fr x = some (c32 p)) (hy : ev fr y = some (c32 q)) : OpV P n fr (.binOp .xor t x y t') ty w (c32 (x32 p q)) w := R_bin hx hy (by
  simp only [binOp, Op.intBits]
  show Result.ok (Value.int .u32 (IntKind.u32.wrap (((BitVec.ofInt 32 p) ^^^ (BitVec.ofInt 32 q)).toNat : Int))) w = _
  rw [wrap_u32, ofInt32]; rfl)
theorem R_a32 (hx : ev fr x = some (c32 p)) (hy : ev fr y = some (c32 q)) : OpV P n fr (.binOp .and t x y t') ty w (c32 (a32 p q)) w := R_bin hx hy (by
  simp only [binOp, Op.intBits]
  show Result.ok (Value.int .u32 (IntKind.u32.wrap (((BitVec.ofInt 32 p) &&& (BitVec.ofInt 32 q)).toNat : Int))) w = _
  rw [wrap_u32, ofInt32]; rfl)
theorem R_n32 (hx : ev fr x = some (c32 p)) : OpV P n fr (.unOp .xor t x) ty w (c32 (x32 4294967295 p)) w := ⟨fun a ha _ _ _ _ => by
  simp only [execOp, ha.ev hx]
  simp only [Op.unary, Op.intBits]
  show Result.ok (Next.value (Value.int .u32 (IntKind.u32.wrap (((BitVec.ofInt 32 4294967295) ^^^ (BitVec.ofInt 32 p)).toNat : Int)))) w = _
  rw [wrap_u32, ofInt32]; rfl⟩
theorem x3 (k : TO E n X s ops rest ((d, c32 (x32 p q)) :: fr) A) (hx : ev fr x = some (c32 p) := by rfl) (hy : ev fr y = some (c32 q) := by rfl) (hd : Nat.blt d n.n = true := by rfl) : TO E n X s ops (⟨some d, .binOp .xor t x y t', ty, pos, after, none⟩ :: rest) fr A := TO.val (fun _ _ => R_x32 hx hy) k hd
theorem x8 (k : TO E n X s ops rest ((d, y8 (bxr p q)) :: fr) A) (hx : ev fr x = some (y8 p) := by rfl) (hy : ev fr y = some (y8 q) := by rfl) (hd : Nat.blt d n.n = true := by rfl) : TO E n X s ops (⟨some d, .binOp .xor t x y t', ty, pos, after, none⟩ :: rest) fr A := TO.val (fun _ _ => R_bxr hx hy) k hd
theorem a3 (k : TO E n X s ops rest ((d, c32 (a32 p q)) :: fr) A) (hx : ev fr x = some (c32 p) := by rfl) (hy : ev fr y = some (c32 q) := by rfl) (hd : Nat.blt d n.n = true := by rfl) : TO E n X s ops (⟨some d, .binOp .and t x y t', ty, pos, after, none⟩ :: rest) fr A := TO.val (fun _ _ => R_a32 hx hy) k hd
theorem n3 (k : TO E n X s ops rest ((d, c32 (x32 4294967295 p)) :: fr) A) (hx : ev fr x = some (c32 p) := by rfl) (hd : Nat.blt d n.n = true := by rfl) : TO E n X s ops (⟨some d, .unOp .xor t x, ty, pos, after, none⟩ :: rest) fr A := TO.val (fun _ _ => R_n32 hx) k hd
/-- A load from an array that lies in memory, at a place that is reckoned. -/
theorem ixq {b m by_ : Nat} {el : TypeId} {z : Value} {k1 : IntKind} {i : Int} (j : Nat) (k : TO E n X s ops rest ((d, .pointer (some ⟨b, j, none⟩)) :: fr) A) (hx : ev fr x = some (.pointer (some ⟨b, 0, none⟩)) := by rfl) (hy : ev fr y = some (.int k1 i) := by rfl) (hi : i = (j : Int) := by omega) (ht : lk E.und t = some (.array m el) := by rfl) (he : lk E.inf el = some (z, 1, by_) := by rfl) (hj : j < m := by omega)
    (hd : Nat.blt d n.n = true := by rfl) : TO E n X s ops (⟨some d, .indexAddr t x y, ty, pos, after, none⟩ :: rest) fr A := TO.val (fun _ _ => R_idxQ ht he hx hy hi hj) k hd
theorem res_a1 {fn : Func} {a : Act} (ha : Holds n a fr) {t : Nat} {ty T : TypeId} {dt : TypeDesc} {z : Value} {sz by_ b : Nat} {cs vs : List Value} (hr : fn.results = #[.cell t ty]) (ht : lk E.und ty = some dt) (hg : aggB dt = true) (hi : lk E.inf ty = some (z, sz, by_)) (h1 : get fr t = some (ptr b))
    (hb : w.heap[b]? = some (.cells cs.toArray T (0, 0))) (hv : cs.take sz = vs) (hl : vs.length = sz) : (results fn a.tmps).run P w = .ok (.agg vs.toArray) w := by
  obtain ⟨inf, g1, _, g2, _⟩ := E.info hi
  have h3 := run_loadCells_list (P := P) w ⟨b, 0, none⟩ vs (fun m u hm => by
    rw [Addr.add_lit]
    refine blk_cell hb ?_
    rw [← hv, List.getElem?_take] at hm
    split at hm
    · simpa using hm
    · cases hm)
  rw [hl] at h3
  have e1 : a.tmps[t]?.getD undef = ptr b := by have := ha.slot t _ h1; simpa using this
  simp only [results, hr]
  simp [e1, asAddr, loadVar, aggB_t (w := w) ht hg, sizeOf, typeInfo, g1, g2, h3]
/-- The end: a result that lies in cells. -/
theorem rca1 {w0 : World} {A0 : List Ch} {R' : Value → List Ch → Prop} {fn : Func} {t nn : Nat} {ty T : TypeId} {dt : TypeDesc} {z : Value} {sz by_ b : Nat} {cs vs : List Value} (h : R' (.agg vs.toArray) D) (hr : fn.results = #[.cell t ty] := by rfl) (ht : lk E.und ty = some dt := by rfl) (hg : aggB dt = true := by rfl) (hi : lk E.inf ty = some (z, sz, by_) := by rfl)
    (hv : get fr t = some (ptr b) := by rfl) (hm : pt b cs T ∈ A := by (repeat (first | apply List.Mem.head | apply List.Mem.tail)); first | done | fail) (hcs : cs.take sz = vs := by rfl) (hl : vs.length = sz := by rfl) (hf : Fit A D G := by first | apply Fit.all | ((repeat (first | (apply Fit.nilN; (repeat (first | apply nrm_nil | apply nrm_cons)); try apply nrm_rfl) | (apply Fit.cons; focus ((repeat (first | apply Tk.here | apply Tk.there)); first | done | fail)))); first | done | fail)) (nb : ∀ c ∈ D, ∀ b, ¬ c.bd b := by (repeat (first | exact nb0 | refine nb1 ?_)); first | done | fail) :
    TX E ⟨nn, [], none⟩ ⟨bodyPost P fn (RetP (PR w0 A0 R')), w0, A0⟩ [] .ret fr A := ⟨fun w hw => ⟨fun a ha =>
  bodyPost_ret (res_a1 (E := E) ha hr ht hg hi hv (hw.mem hm) hcs hl) (ha.defers.trans rfl) ⟨_, rfl, PR.mk h hw hf nb⟩⟩⟩
/-- The spare room is given up. -/
def clipV (v : Value) (n : Nat) : Value := match v with
  | .slice o _ _ => .slice o n n
  | v => v
theorem R_clip {el : TypeId} {z v : Value} {by_ : Nat} {xs : List Value} {y1 y2 : Operand} {k1 k2 : IntKind} (ht : lk E.und t = some (.slice el)) (he : lk E.inf el = some (z, 1, by_)) (hx : ev fr x = some v) (h1 : ev fr y1 = some (.int k1 (xs.length : Int))) (h2 : ev fr y2 = some (.int k2 (xs.length : Int))) (hs : Sl w v xs) :
    OpV P n fr (.slice t x none (some y1) (some y2)) ty w (clipV v xs.length) w := ⟨fun a ha _ _ _ _ => by
  obtain ⟨inf, hi, _, hsz, _⟩ := E.info he
  obtain ⟨o, c, rfl, g1, g2, g3⟩ := hs
  have b1 : ∀ (k : IntKind) (m : Nat) (cd : BoundsCode), xs.length ≤ m → (Instr.sliceBound (.int k (xs.length : Int)) m cd).run P w = .ok xs.length w := fun k m cd hm => by
    have : (0 : Int) ≤ (xs.length : Int) ∧ (xs.length : Int) ≤ (m : Int) := by omega
    simp [Instr.sliceBound, asIntOf, this]
  simp only [execOp, ha.ev hx]
  simp only [Option.map, ha.ev h1, ha.ev h2]
  cases o with
  | none => simp [Instr.sliceAt, Instr.slice, run_underlying (P := P) (E.un ht) w, Instr.sliceBounds, sizeOf, typeInfo, hi, hsz, b1 _ _ _ g1, b1 _ _ _ (Nat.le_refl _), clipV]
  | some ad =>
    have e : ad.add 0 = ad := by unfold Addr.add; simp
    simp [Instr.sliceAt, Instr.slice, run_underlying (P := P) (E.un ht) w, Instr.sliceBounds, sizeOf, typeInfo, hi, hsz, b1 _ _ _ g1, b1 _ _ _ (Nat.le_refl _), clipV, e]⟩
theorem im_clip (e : TypeId) (v : Value) (xs : List Value) : Im1 (own e v xs) (own e (clipV v xs.length) xs) := by
  have hb : (clipV v xs.length).ownBlock = v.ownBlock := by cases v <;> first | rfl | (rename_i a _ _; cases a <;> rfl)
  refine ⟨fun w h => ?_, fun b h => ?_, fun _ h => h.elim, fun b h => ?_⟩
  · rcases h with ⟨rfl, rfl⟩ | ⟨b, o, cap, cur, rfl, h1, h2, h3, h4, h5⟩
    · exact .inl ⟨rfl, rfl⟩
    · exact .inr ⟨b, o, xs.length, cur, rfl, h1, Nat.le_refl _, by omega, by omega, h5⟩
  · show v.ownBlock = some b; rw [← hb]; exact h
  · rcases h with h | h | h
    · exact .inl (by show v.ownBlock = some b; rw [← hb]; exact h)
    · exact h.elim
    · exact h.elim
theorem clp {el e : TypeId} {z v : Value} {by_ : Nat} {l : List Int} {y1 y2 : Operand} {k1 k2 : IntKind} (k : TO E n X s ops rest ((d, clipV v l.length) :: fr) (own e (clipV v l.length) (By l) :: A')) (hx : ev fr x = some v := by rfl) (hm : Tk (own e v (By l)) A A' := by (repeat (first | apply Tk.here | apply Tk.there)); first | done | fail) (h1 : ev fr y1 = some (.int k1 (l.length : Int)) := by rfl) (h2 : ev fr y2 = some (.int k2 (l.length : Int)) := by rfl)
    (ht : lk E.und t = some (.slice el) := by rfl) (he : lk E.inf el = some (z, 1, by_) := by rfl) (hd : Nat.blt d n.n = true := by rfl) : TO E n X s ops (⟨some d, .slice t x none (some y1) (some y2), ty, pos, after, none⟩ :: rest) fr A := by
  have hl := By_len l
  refine TO.im hm (TO.val (v := clipV v l.length) (fun w hw => ?_) (TO.im (Im1.im (by have := im_clip e v (By l); rwa [hl] at this) A') k) hd)
  have h3 : OwnO w e v (By l) := hw.h (own e v (By l)) (List.Mem.head _)
  rw [← hl] at h1 h2 ⊢
  exact R_clip ht he hx h1 h2 h3.sl
end
attribute [local irreducible] Fit pt own ro vw mpc lpt vels rels mow lrc dfr
attribute [local irreducible] lmp lme mit velg relg
abbrev TTab : TypeId := 171
set_option maxRecDepth 10000 in
theorem Table_tr : Tr Tryz.prog 112 [] [] [] fun v D => v = .agg (tabP 256).toArray ∧ D = [] := by
  refine Tr.enter env _ Tryz.func112 (by kernel_rfl) rfl Tryz.ntmps112 rfl (by repeat (first | exact has00 | refine has01 ?_)) fun w0 => ?_
  repeat' first|refine al fun b => ?_|(refine wo ?_; first|refine oa ?_)|refine sq ?_|refine rg ?_|refine xc ?_|refine nl ?_|refine bk ?_
  refine TC.im (B := [pt b (tabP 0) TTab]) (by rw [tabP_zero]; exact Im.refl _) ?_
  refine TC.loop (ι := Nat) (fun i => [(3, I i)]) (fun i => [pt b (tabP i) TTab]) (fun i => i ≤ 256) (fun i => 256 - i) 0 [0] (by omega) ?_
  intro i hi
  by_cases h : i < 256
  · repeat' first|(refine wo ?_; first|(refine ao ?_; first|refine oa ?_)|refine oa ?_)|(refine gc ?_; first|(refine ci (fun hB => ?_) (fun hB => ?_) <;> try (exfalso; omega)))|refine sq ?_|refine rg ?_|refine xc ?_|refine nl ?_|refine sk ?_|refine bk ?_
    refine TC.loop (ι := Nat) (fun j => [(8, I j), (2, c32 (stepN j (IntKind.u32.wrap i)))]) (fun j => [pt b (tabP i) TTab]) (fun j => j ≤ 8) (fun j => 8 - j) 0 [0, 1, 3] (by omega) ?_
    intro j hj
    have hp := stepN_pos (x := IntKind.u32.wrap i) (by rw [wrap_u32]; omega) j
    by_cases h8 : j < 8
    · repeat' first|refine x3 ?_|refine a3 ?_|(refine wo ?_; first|(refine ao ?_; first|refine aw ?_|refine oa ?_|refine shr1 ?_)|refine oa ?_)|(refine gc ?_; first|(refine ci (fun hB => ?_) (fun hB => ?_) <;> try (exfalso; omega)))|refine sq ?_|refine rg ?_|refine xc ?_|refine nl ?_|refine sk ?_|refine bk ?_|refine xb ?_
      exact lp (j + 1) (by omega)
    · obtain rfl : j = 8 := by omega
      repeat' first|refine ixq i ?_|(refine wo ?_; first|(refine ao ?_; first|refine oa ?_)|refine oa ?_)|(refine gc ?_; first|refine cf ?_)|refine sq ?_|refine rg ?_|refine xc ?_|refine nl ?_|refine xe ?_
      refine sr (b := b) (j := i) (cs := tabP i) (cs' := tabP (i + 1)) (T := TTab) (v := c32 (tabE i)) ?_ (hs := by rw [← tabP_set h]; exact SetAt.of _ _ _ (by rw [tabP_len]; exact h))
      repeat' first|(refine wo ?_; first|(refine ao ?_; first|refine aw ?_)|refine oa ?_)|refine rg ?_|refine xc ?_|refine nl ?_|refine xb ?_
      exact lp (i + 1) (by omega)
  · have hi6 : i = 256 := by omega
    repeat' first|(refine wo ?_; first|(refine ao ?_; first|refine oa ?_))|(refine gc ?_; first|(refine ci (fun hB => ?_) (fun hB => ?_) <;> try (exfalso; omega)))|refine sq ?_|refine rg ?_|refine xc ?_|refine nl ?_|refine xe ?_
    rw [hi6]
    refine lda (b := b) (j := 0) (cs := tabP 256) (T := TTab) (vs := tabP 256) ?_ (hv := by rw [List.drop_zero, List.take_of_length_le (Nat.le_of_eq (tabP_len _))]) (hl := tabP_len _)
    refine sra (b := b) (j := 0) (cs := tabP 256) (cs' := tabP 256) (T := TTab) (vs := tabP 256) ?_ (hl := tabP_len _) (h1 := tabP_one _) (hj := Nat.le_of_eq (by rw [tabP_len])) (hs := by rw [List.take_zero, List.drop_eq_nil_of_le (Nat.le_of_eq (by rw [tabP_len])), List.append_nil, List.nil_append])
    repeat' first|refine xc ?_|refine nl ?_|refine rt ?_
    exact rca1 (b := b) (cs := tabP 256) (vs := tabP 256) ⟨rfl, rfl⟩ (hcs := List.take_of_length_le (Nat.le_of_eq (tabP_len _))) (hl := tabP_len _)
theorem first_tr (s : Value) : Tr Tryz.prog 100 [s] [vw s [nP]] [] fun v D => ∃ b, v = ptr b ∧ D = [pt b (tabP 256) TTab] := by
  refine Tr.enter env _ Tryz.func100 (by kernel_rfl) rfl Tryz.ntmps100 rfl (by repeat (first | exact has00 | refine has01 ?_)) fun w0 => ?_
  repeat' first|(refine wo ?_; first|refine oa ?_|refine ln ?_)|refine sq ?_|refine rg ?_|refine xc ?_|refine nl ?_|refine bk ?_
  refine TC.loop (ι := Nat) (fun i => [(8, I i)]) (fun _ => []) (fun i => i ≤ 1) (fun i => 1 - i) 0 [6, 7] (by omega) ?_
  intro i hi
  by_cases h : i < 1
  · obtain rfl : i = 0 := by omega
    repeat' first|(refine wo ?_; first|(refine ao ?_; first|refine aw ?_|refine oa ?_|refine ipn ?_)|refine oa ?_|refine lv ?_|refine ixn ?_)|(refine gc ?_; first|refine ct ?_|refine cf ?_)|refine sq ?_|refine rg ?_|refine xc ?_|refine nl ?_|refine sk ?_|refine bk ?_|refine xb ?_
    exact lp 1 (by omega)
  · have h1 : [nP].length = 1 := rfl
    repeat' first|(refine gca ?_; first|(refine ca Table_tr ?_; rintro _ _ ⟨rfl, rfl⟩))|refine al fun b => ?_|(refine wo ?_; first|(refine ao ?_; first|refine oa ?_))|(refine gc ?_; first|(refine ci (fun hB => ?_) (fun hB => ?_) <;> try (exfalso; omega)))|refine sq ?_|refine rg ?_|refine xc ?_|refine nl ?_|refine xe ?_
    refine sra (b := b) (j := 0) (cs' := tabP 256) (T := TTab) (vs := tabP 256) ?_ (hl := tabP_len _) (h1 := tabP_one _) (hj := by rw [show (Value.agg (Array.replicate 256 (c32 0))).cells.toList = List.replicate 256 (c32 0) from by simp [Value.cells]]; exact Nat.le_of_eq (by rw [List.length_replicate])) (hs := by
      rw [show (Value.agg (Array.replicate 256 (c32 0))).cells.toList = List.replicate 256 (c32 0) from by simp [Value.cells]]
      rw [List.take_zero, List.drop_eq_nil_of_le (Nat.le_of_eq (by rw [List.length_replicate])), List.append_nil, List.nil_append])
    repeat' first|(refine wo ?_; first|refine oa ?_)|refine sq ?_|refine rg ?_|refine xc ?_|refine nl ?_|refine rt ?_
    exact r1 ⟨b, rfl, rfl⟩
theorem Sum_crc (b : Value) (l : List Int) : Tr Tryz.prog 83 [nP, b] [vw b (By l)] [] fun v D => v = c32 (crcF l) ∧ D = [] := by
  refine Tr.enter env _ Tryz.func83 (by kernel_rfl) rfl Tryz.ntmps83 rfl (by repeat (first | exact has00 | refine has01 ?_)) fun w0 => ?_
  refine TC.fact (p := l.length ≤ 9223372036854775807) (fun w hw => by have := (has_sl hw (v := b) (xs := By l) (by first | (apply has_vw; (repeat (first | apply List.Mem.head | apply List.Mem.tail)); first | done | fail) | (apply has_own; (repeat (first | apply List.Mem.head | apply List.Mem.tail)); first | done | fail) | (apply has_ro; (repeat (first | apply List.Mem.head | apply List.Mem.tail)); first | done | fail) | apply has_nil | ((with_reducible apply has_el); (focus (first | (apply has_vels; (repeat (first | apply List.Mem.head | apply List.Mem.tail)); first | done | fail) | (apply has_rels; (repeat (first | apply List.Mem.head | apply List.Mem.tail)); first | done | fail))); omega) | (apply has_pt; (repeat (first | apply List.Mem.head | apply List.Mem.tail)); first | done | fail) | (apply has_lpt; (repeat (first | apply List.Mem.head | apply List.Mem.tail)); first | done | fail) | (apply has_vels; (repeat (first | apply List.Mem.head | apply List.Mem.tail)); first | done | fail) | (apply has_rels; (repeat (first | apply List.Mem.head | apply List.Mem.tail)); first | done | fail) | with_reducible assumption | ((with_reducible apply has_elg); (focus (first | (apply has_velg; (repeat (first | apply List.Mem.head | apply List.Mem.tail)); first | done | fail) | (apply has_relg; (repeat (first | apply List.Mem.head | apply List.Mem.tail)); first | done | fail))); omega) | (apply has_velg; (repeat (first | apply List.Mem.head | apply List.Mem.tail)); first | done | fail) | (apply has_relg; (repeat (first | apply List.Mem.head | apply List.Mem.tail)); first | done | fail) | (apply has_vwf; (repeat (first | apply List.Mem.head | apply List.Mem.tail)); first | done | fail))).len; rwa [By_len] at this) fun hln => ?_
  repeat' first|(refine gca ?_; first|(refine ca (first_tr _) ?_; rintro _ _ ⟨p, rfl, rfl⟩))|refine slw fun v hv => ?_|(refine wo ?_; first|refine oa ?_|refine lnm ?_)|refine sq ?_|refine rg ?_|refine xc ?_|refine nl ?_|refine bk ?_
  refine TC.loop (ι := Nat) (fun i => [(13, I i), (5, c32 (crcN (l.take i)))]) (fun i => [pt p (tabP 256) TTab]) (fun i => i ≤ l.length) (fun i => l.length - i) 0 [0, 11, 12] (by omega) ?_
  intro i hi
  have hp := crcN_pos (l.take i)
  by_cases h : i < l.length
  · have ht : crcN (l.take (i + 1)) = crcS (crcN (l.take i)) (l.getD i 0) := by rw [take_succ' h 0, crcN_snoc]
    generalize hx2 : crcN (l.take (i + 1)) = x2 at *
    generalize crcN (l.take i) = x1 at *
    have hb := bxr_range (x1 % 256) (l.getD i 0)
    obtain ⟨k, hk, hk2⟩ : ∃ k : Nat, bxr (x1 % 256) (l.getD i 0) = (k : Int) ∧ k < 256 := ⟨_, (Int.toNat_of_nonneg hb.1).symm, by omega⟩
    have ht2 : x2 = x32 (x1 / 2 ^ 8) (tabE k) := by rw [ht, crcS, hk]; rfl
    repeat' first|refine x3 ?_|refine x8 ?_|refine u8m ?_|refine shr (c := 8) ?_|refine ixq k ?_|refine ld (b := p) (cs := tabP 256) (T := TTab) (v := c32 (tabE k)) ?_ (hj := tabP_all hk2)|(refine wo ?_; first|(refine ao ?_; first|refine aw ?_|refine oa ?_)|refine oa ?_|refine ixmn ?_|refine lb ?_)|(refine gc ?_; first|(refine ci (fun hB => ?_) (fun hB => ?_) <;> try (exfalso; omega)))|refine sq ?_|refine rg ?_|refine xc ?_|refine nl ?_|refine sk ?_|refine bk ?_|refine xb ?_
    exact lp (i + 1) (by omega) (hs := by rw [hx2, ht2]; (repeat (refine Sub.cons rfl (by first | rfl | go_num) ?_)); exact Sub.nil)
  · have hl : l.take i = l := List.take_of_length_le (by omega)
    rw [hl]
    repeat' first|refine n3 ?_|(refine wo ?_; first|(refine ao ?_; first|refine oa ?_)|refine oa ?_)|(refine gc ?_; first|(refine ci (fun hB => ?_) (fun hB => ?_) <;> try (exfalso; omega)))|refine sq ?_|refine rg ?_|refine xc ?_|refine nl ?_|refine xe ?_|refine rt ?_
    exact r1 ⟨rfl, rfl⟩
theorem Equal_tr (a b : Value) (l m : List Int) : Tr Tryz.prog 70 [a, b] [vw a (By l), vw b (By m)] [] fun v D => v = .bool (decide (l = m)) ∧ D = [] := by
  refine Tr.enter env _ Tryz.func70 (by kernel_rfl) rfl Tryz.ntmps70 rfl (by repeat (first | exact has00 | refine has01 ?_)) fun w0 => ?_
  refine TC.fact (p := l.length ≤ 9223372036854775807) (fun w hw => by have := (has_sl hw (v := a) (xs := By l) (by first | (apply has_vw; (repeat (first | apply List.Mem.head | apply List.Mem.tail)); first | done | fail) | (apply has_own; (repeat (first | apply List.Mem.head | apply List.Mem.tail)); first | done | fail) | (apply has_ro; (repeat (first | apply List.Mem.head | apply List.Mem.tail)); first | done | fail) | apply has_nil | ((with_reducible apply has_el); (focus (first | (apply has_vels; (repeat (first | apply List.Mem.head | apply List.Mem.tail)); first | done | fail) | (apply has_rels; (repeat (first | apply List.Mem.head | apply List.Mem.tail)); first | done | fail))); omega) | (apply has_pt; (repeat (first | apply List.Mem.head | apply List.Mem.tail)); first | done | fail) | (apply has_lpt; (repeat (first | apply List.Mem.head | apply List.Mem.tail)); first | done | fail) | (apply has_vels; (repeat (first | apply List.Mem.head | apply List.Mem.tail)); first | done | fail) | (apply has_rels; (repeat (first | apply List.Mem.head | apply List.Mem.tail)); first | done | fail) | with_reducible assumption | ((with_reducible apply has_elg); (focus (first | (apply has_velg; (repeat (first | apply List.Mem.head | apply List.Mem.tail)); first | done | fail) | (apply has_relg; (repeat (first | apply List.Mem.head | apply List.Mem.tail)); first | done | fail))); omega) | (apply has_velg; (repeat (first | apply List.Mem.head | apply List.Mem.tail)); first | done | fail) | (apply has_relg; (repeat (first | apply List.Mem.head | apply List.Mem.tail)); first | done | fail) | (apply has_vwf; (repeat (first | apply List.Mem.head | apply List.Mem.tail)); first | done | fail))).len; rwa [By_len] at this) fun hln => ?_
  repeat' first|(refine wo ?_; first|(refine ao ?_; first|refine oa ?_)|refine oa ?_|refine lnm ?_)|(refine gc ?_; first|(refine cn (fun hB => ?_) (fun hB => ?_) <;> try (exfalso; omega)))|refine sq ?_|refine rg ?_|refine xc ?_|refine nl ?_|refine sk ?_|refine bk ?_|refine rt ?_
  · refine r1 ⟨?_, rfl⟩
    rw [decide_eq_false]; intro e; subst e; omega
  · refine TC.loop (ι := Nat) (fun k => [(13, I k)]) (fun _ => []) (fun k => k ≤ l.length ∧ ∀ j, j < k → l.getD j 0 = m.getD j 0) (fun k => l.length - k) 0 [0, 1, 12] ⟨by omega, by omega⟩ ?_
    rintro k ⟨hk, heq⟩
    repeat' first|(refine wo ?_; first|(refine ao ?_; first|refine aw ?_|refine oa ?_)|refine oa ?_)|(refine gc ?_; first|(refine ci (fun hB => ?_) (fun hB => ?_) <;> try (exfalso; omega))|(refine cn (fun hB => ?_) (fun hB => ?_) <;> try (exfalso; omega)))|refine sq ?_|refine rg ?_|refine xc ?_|refine nl ?_|refine sk ?_|refine bk ?_|refine xe ?_|refine rt ?_|refine xb ?_|refine rq ?_|refine nq ?_|(refine wq ?_; first|(refine qao ?_; first|refine qa ?_)|refine qa ?_|refine qixmn ?_|refine qlb ?_)
    · refine r1 ⟨?_, rfl⟩
      rw [decide_eq_false]; intro e; exact hB (by rw [e])
    · refine lp (k + 1) ⟨by omega, fun j hj => ?_⟩
      by_cases hjk : j < k
      · exact heq j hjk
      · obtain rfl : j = k := by omega
        assumption
    · refine r1 ⟨?_, rfl⟩
      rw [decide_eq_true]
      exact eq_of_getD (by omega) (fun j hj => heq j (by omega))
theorem crcB_get (l : List Int) {i : Nat} (h : i < 4) : (crcB l).getD i 0 = crcF l / 256 ^ i % 256 := by unfold crcB; simp [List.getD_eq_getElem?_getD, h]
theorem Clip_tr (v : Value) (l : List Int) : Tr Tryz.prog 44 [v] [] [own TyB v (By l)] fun o D => o.oneCell' = true ∧ D = [own TyB o (By l)] := by
  refine Tr.enter env _ Tryz.func44 (by kernel_rfl) rfl Tryz.ntmps44 rfl (by repeat (first | exact has00 | refine has01 ?_)) fun w0 => ?_
  refine TC.fact (p := l.length ≤ 9223372036854775807) (fun w hw => by have := (has_sl hw (v := v) (xs := By l) (by first | (apply has_vw; (repeat (first | apply List.Mem.head | apply List.Mem.tail)); first | done | fail) | (apply has_own; (repeat (first | apply List.Mem.head | apply List.Mem.tail)); first | done | fail) | (apply has_ro; (repeat (first | apply List.Mem.head | apply List.Mem.tail)); first | done | fail) | apply has_nil | ((with_reducible apply has_el); (focus (first | (apply has_vels; (repeat (first | apply List.Mem.head | apply List.Mem.tail)); first | done | fail) | (apply has_rels; (repeat (first | apply List.Mem.head | apply List.Mem.tail)); first | done | fail))); omega) | (apply has_pt; (repeat (first | apply List.Mem.head | apply List.Mem.tail)); first | done | fail) | (apply has_lpt; (repeat (first | apply List.Mem.head | apply List.Mem.tail)); first | done | fail) | (apply has_vels; (repeat (first | apply List.Mem.head | apply List.Mem.tail)); first | done | fail) | (apply has_rels; (repeat (first | apply List.Mem.head | apply List.Mem.tail)); first | done | fail) | with_reducible assumption | ((with_reducible apply has_elg); (focus (first | (apply has_velg; (repeat (first | apply List.Mem.head | apply List.Mem.tail)); first | done | fail) | (apply has_relg; (repeat (first | apply List.Mem.head | apply List.Mem.tail)); first | done | fail))); omega) | (apply has_velg; (repeat (first | apply List.Mem.head | apply List.Mem.tail)); first | done | fail) | (apply has_relg; (repeat (first | apply List.Mem.head | apply List.Mem.tail)); first | done | fail) | (apply has_vwf; (repeat (first | apply List.Mem.head | apply List.Mem.tail)); first | done | fail))).len; rwa [By_len] at this) fun hln => ?_
  repeat' first|(refine wo ?_; first|refine oa ?_|refine lnm ?_)|refine sq ?_|refine rg ?_|refine xc ?_|refine nl ?_
  refine clp ?_
  refine TO.one (v := clipV v l.length) (xs := By l) fun h1 => ?_
  repeat' first|(refine wo ?_; first|refine oa ?_)|refine xc ?_|refine nl ?_|refine rt ?_
  exact r1 ⟨h1, rfl⟩
theorem Seal_tr (b : Value) (l : List Int) (hl : l.length ≤ 1099511627776) : Tr Tryz.prog 61 [nP, b] [vw b (By l)] [] fun v D => v.oneCell' = true ∧ D = [own TyB v (By (sealF l))] := by
  refine Tr.enter env _ Tryz.func61 (by kernel_rfl) rfl Tryz.ntmps61 rfl (by repeat (first | exact has00 | refine has01 ?_)) fun w0 => ?_
  repeat' first|(refine gca ?_; first|(refine ca (Clone_tr b l hl) ?_; rintro o _ ⟨ho, rfl⟩)|(refine ca (Sum_crc b l) ?_; rintro _ _ ⟨rfl, rfl⟩))|(refine wo ?_; first|refine oa ?_)|refine sq ?_|refine rg ?_|refine xc ?_|refine nl ?_|refine bk ?_
  refine TC.loop (ι := Nat × Value) (fun g => [(13, I g.1), (5, g.2)]) (fun g => [own TyB g.2 (By (l ++ (crcB l).take g.1))]) (fun g => g.1 ≤ 4) (fun g => 4 - g.1) (0, o) [6] (by simp) ?_ (hf := by rw [List.take_zero, List.append_nil]; first | apply Fit.all | ((repeat (first | (apply Fit.nilN; (repeat (first | apply nrm_nil | apply nrm_cons)); try apply nrm_rfl) | (apply Fit.cons; focus ((repeat (first | apply Tk.here | apply Tk.there)); first | done | fail)))); first | done | fail))
  rintro ⟨i, o⟩ hi
  dsimp only at hi ⊢
  have hcp := crcF_pos l
  have hll : ((crcB l).take i).length ≤ 4 := by rw [List.length_take, crcB_len]; omega
  by_cases h : i < 4
  · have ht := take_succ' (l := crcB l) (i := i) (by rw [crcB_len]; exact h) 0
    rw [crcB_get l h] at ht
    have hp := pow_256 (crcF l) i
    repeat' first|refine u8m ?_|(refine wo ?_; first|(refine ao ?_; first|refine aw ?_|refine oa ?_|refine shr ?_)|refine oa ?_)|(refine gc ?_; first|(refine ci (fun hB => ?_) (fun hB => ?_) <;> try (exfalso; omega)))|refine sq ?_|refine rg ?_|refine xc ?_|refine nl ?_|refine sk ?_|refine bk ?_
    rw [hp]
    refine slbz fun c hc => ?_
    refine apb fun o2 ho2 => ?_
    repeat' first|(refine wo ?_; first|(refine ao ?_; first|refine aw ?_)|refine oa ?_)|refine rg ?_|refine xc ?_|refine nl ?_|refine xb ?_
    rw [List.append_assoc, ← ht]
    exact lp (i + 1, o2) (by dsimp only; omega)
  · have ht : (crcB l).take i = crcB l := List.take_of_length_le (by rw [crcB_len]; omega)
    rw [ht]
    repeat' first|(refine gca ?_; first|(refine ca (Clip_tr o (l ++ crcB l)) ?_; rintro q _ ⟨hq, rfl⟩))|(refine wo ?_; first|(refine ao ?_; first|refine oa ?_)|refine oa ?_)|(refine gc ?_; first|(refine ci (fun hB => ?_) (fun hB => ?_) <;> try (exfalso; omega)))|refine sq ?_|refine rg ?_|refine xc ?_|refine nl ?_|refine xe ?_|refine rt ?_
    exact r1 ⟨hq, rfl⟩
/-- What Open tells. -/
def openR (l : List Int) : List Int × Int := if l.length < 4 then ([], 7) else if sealF (l.take (l.length - 4)) = l then (l.take (l.length - 4), 0) else ([], 8)
theorem openR_seal (l : List Int) : openR (sealF l) = (l, 0) := by
  have h := sealF_len l
  have h2 : (sealF l).take ((sealF l).length - 4) = l := by rw [h, Nat.add_sub_cancel, sealF, List.take_left]
  unfold openR
  rw [if_neg (by omega), h2, if_pos rfl]
theorem Open_tr (b : Value) (l : List Int) (hl : l.length ≤ 1099511627776) : Tr Tryz.prog 34 [nP, b] [vw b (By l)] [] fun v D => ∃ o, v = tup2 o (I (openR l).2) ∧ o.oneCell' = true ∧ D = [own TyB o (By (openR l).1)] := by
  refine Tr.enter env _ Tryz.func34 (by kernel_rfl) rfl Tryz.ntmps34 rfl (by repeat (first | exact has00 | refine has01 ?_)) fun w0 => ?_
  by_cases h4 : l.length < 4
  · rw [show openR l = ([], 7) from if_pos h4]
    repeat' first|(refine wo ?_; first|(refine ao ?_; first|refine oa ?_)|refine oa ?_|refine lnm ?_)|(refine gc ?_; first|(refine ci (fun hB => ?_) (fun hB => ?_) <;> try (exfalso; omega)))|refine sq ?_|refine rg ?_|refine xc ?_|refine nl ?_|refine rt ?_
    refine TX.im (own_nil TyB _) ?_
    exact r2 ⟨nS, rfl, rfl, rfl⟩
  · have hsub : ((By l).take (l.length - 4)).drop 0 = By (l.take (l.length - 4)) := by rw [List.drop_zero]; simp
    have hlt : (l.take (l.length - 4)).length ≤ 1099511627776 := by simp; omega
    have hn : ((l.length : Int) - 4).toNat = l.length - 4 := by omega
    have hh : ∀ F : List Ch, Has F (vw b (By l)) → Has F (vw (slSub b 0 (l.length - 4)) (By (l.take (l.length - 4)))) := fun F h => by
      rw [← hsub]; exact has_sub h (Nat.zero_le _) (by rw [By_len]; omega)
    repeat' first|(refine wo ?_; first|(refine ao ?_; first|refine aw ?_|refine oa ?_)|refine oa ?_|refine lnm ?_|refine schm ?_)|(refine gc ?_; first|(refine ci (fun hB => ?_) (fun hB => ?_) <;> try (exfalso; omega)))|refine sq ?_|refine rg ?_|refine xc ?_|refine nl ?_|refine sk ?_
    rw [hn]
    repeat' first|(refine gca ?_; first|(refine ca (Seal_tr _ (l.take (l.length - 4)) hlt) ?_ (hp := has1 (hh _ (by first | (apply has_vw; (repeat (first | apply List.Mem.head | apply List.Mem.tail)); first | done | fail) | (apply has_own; (repeat (first | apply List.Mem.head | apply List.Mem.tail)); first | done | fail) | (apply has_ro; (repeat (first | apply List.Mem.head | apply List.Mem.tail)); first | done | fail) | apply has_nil | ((with_reducible apply has_el); (focus (first | (apply has_vels; (repeat (first | apply List.Mem.head | apply List.Mem.tail)); first | done | fail) | (apply has_rels; (repeat (first | apply List.Mem.head | apply List.Mem.tail)); first | done | fail))); omega) | (apply has_pt; (repeat (first | apply List.Mem.head | apply List.Mem.tail)); first | done | fail) | (apply has_lpt; (repeat (first | apply List.Mem.head | apply List.Mem.tail)); first | done | fail) | (apply has_vels; (repeat (first | apply List.Mem.head | apply List.Mem.tail)); first | done | fail) | (apply has_rels; (repeat (first | apply List.Mem.head | apply List.Mem.tail)); first | done | fail) | with_reducible assumption | ((with_reducible apply has_elg); (focus (first | (apply has_velg; (repeat (first | apply List.Mem.head | apply List.Mem.tail)); first | done | fail) | (apply has_relg; (repeat (first | apply List.Mem.head | apply List.Mem.tail)); first | done | fail))); omega) | (apply has_velg; (repeat (first | apply List.Mem.head | apply List.Mem.tail)); first | done | fail) | (apply has_relg; (repeat (first | apply List.Mem.head | apply List.Mem.tail)); first | done | fail) | (apply has_vwf; (repeat (first | apply List.Mem.head | apply List.Mem.tail)); first | done | fail))) has0); rintro o _ ⟨ho, rfl⟩)|(refine ca (Equal_tr _ _ (sealF (l.take (l.length - 4))) l) ?_; rintro _ _ ⟨rfl, rfl⟩)|(refine ca (Clone_tr _ (l.take (l.length - 4)) hlt) ?_ (hp := has1 (hh _ (by first | (apply has_vw; (repeat (first | apply List.Mem.head | apply List.Mem.tail)); first | done | fail) | (apply has_own; (repeat (first | apply List.Mem.head | apply List.Mem.tail)); first | done | fail) | (apply has_ro; (repeat (first | apply List.Mem.head | apply List.Mem.tail)); first | done | fail) | apply has_nil | ((with_reducible apply has_el); (focus (first | (apply has_vels; (repeat (first | apply List.Mem.head | apply List.Mem.tail)); first | done | fail) | (apply has_rels; (repeat (first | apply List.Mem.head | apply List.Mem.tail)); first | done | fail))); omega) | (apply has_pt; (repeat (first | apply List.Mem.head | apply List.Mem.tail)); first | done | fail) | (apply has_lpt; (repeat (first | apply List.Mem.head | apply List.Mem.tail)); first | done | fail) | (apply has_vels; (repeat (first | apply List.Mem.head | apply List.Mem.tail)); first | done | fail) | (apply has_rels; (repeat (first | apply List.Mem.head | apply List.Mem.tail)); first | done | fail) | with_reducible assumption | ((with_reducible apply has_elg); (focus (first | (apply has_velg; (repeat (first | apply List.Mem.head | apply List.Mem.tail)); first | done | fail) | (apply has_relg; (repeat (first | apply List.Mem.head | apply List.Mem.tail)); first | done | fail))); omega) | (apply has_velg; (repeat (first | apply List.Mem.head | apply List.Mem.tail)); first | done | fail) | (apply has_relg; (repeat (first | apply List.Mem.head | apply List.Mem.tail)); first | done | fail) | (apply has_vwf; (repeat (first | apply List.Mem.head | apply List.Mem.tail)); first | done | fail))) has0); rintro q _ ⟨hq, rfl⟩))|(refine wo ?_; first|refine oa ?_)|(refine gc ?_; first|(refine cn (fun hB => ?_) (fun hB => ?_) <;> try (exfalso; omega)))|refine sq ?_|refine rg ?_|refine xc ?_|refine nl ?_|refine sk ?_|refine rt ?_
    · rw [show openR l = ([], 8) by rw [openR, if_neg h4, if_neg (by simpa using hB)]]
      refine TX.im (own_nil TyB _) ?_
      exact r2 ⟨nS, rfl, rfl, rfl⟩
    · rw [show openR l = (l.take (l.length - 4), 0) by rw [openR, if_neg h4, if_pos (by simpa using hB)]]
      exact r2 ⟨q, rfl, hq, rfl⟩
end Go.Art
set_option linter.unusedSimpArgs false
set_option linter.unusedVariables false
namespace Go.Art
open Go Go.Proofs Go.RowKit

def setPartsF (pf : Nat → Option (Nat × Nat)) : List Value → List (Nat × Value) → Option (List Value)
  | cs, [] => some cs
  | cs, (i, v) :: r => match pf i with
    | some (off, sz) => bif Nat.beq v.cells.size sz && Nat.ble (off + sz) cs.length then setPartsF pf (cs.take off ++ v.cells.toList ++ cs.drop (off + sz)) r else none
    | none => none
theorem fill_partsF {pf : Nat → Option (Nat × Nat)} : ∀ {vs : List (Nat × Value)} {cs cs' : List Value}, setPartsF pf cs vs = some cs' → Instr.fill pf cs.toArray vs = some cs'.toArray
  | [], cs, cs', h => by simp [setPartsF] at h; simp [Instr.fill, h]
  | (i, v) :: r, cs, cs', h => by
    simp only [setPartsF] at h
    cases hp : pf i with
    | none => rw [hp] at h; cases h
    | some q =>
      obtain ⟨off, sz⟩ := q
      rw [hp] at h
      simp only at h
      by_cases hc : (Nat.beq v.cells.size sz && Nat.ble (off + sz) cs.length) = true
      · rw [hc, cond_true] at h
        simp only [Bool.and_eq_true] at hc
        have h1 := Nat.eq_of_beq_eq_true hc.1
        have h2 := Nat.le_of_ble_eq_true hc.2
        simp only [Instr.fill, hp]
        have hx1 : ¬ ((decide (v.cells.size ≠ sz) || decide (off + v.cells.size > cs.toArray.size)) = true) := by simp [h1]; omega
        rw [if_neg hx1]
        have hf : (v.cells.zipIdx.foldl (fun cs (x : Value × Nat) => cs.setIfInBounds (off + x.2) x.1) cs.toArray) = (cs.take off ++ v.cells.toList ++ cs.drop (off + sz)).toArray := by
          have := foldl_set v.cells.toList off 0 cs.toArray (by simp; omega)
          simp only [Nat.add_zero] at this
          rw [← Array.foldl_toList, Array.toList_zipIdx, this]
          simp [h1]
        show Instr.fill _ (v.cells.zipIdx.foldl (fun cs (x : Value × Nat) => cs.setIfInBounds (off + x.2) x.1) cs.toArray) r = _
        rw [hf]
        exact fill_partsF h
      · have : (Nat.beq v.cells.size sz && Nat.ble (off + sz) cs.length) = false := by simpa only [Bool.not_eq_true] using hc
        rw [this, cond_false] at h; cases h
section
variable {P : Program} {E : Env P} {n : Sh} {X : Cx} {s : List K} {fr : Fr} {A A' : List Ch} {ops : Array Oper} {rest : List Oper} {d m sz sz1 by_ by1 : Nat} {ty t t' el : TypeId} {pos : String} {after : Array Edge} {x y : Operand} {w : World} {cs zs vs : List Value} {v z : Value} {parts : List (Nat × Operand)} {ps : List (Nat × Value)} {dt : TypeDesc} {i : Int} {k1 : IntKind}
theorem R_buildArr (ht : lk E.und t = some (.array m el)) (he : lk E.inf t = some (.agg zs.toArray, sz, by_)) (h1 : lk E.inf el = some (z, sz1, by1)) (hv : evps fr parts = some ps) (hs : setPartsF (fun i => some (i * sz1, sz1)) zs ps = some cs) : OpV P n fr (.build t parts.toArray) ty w (.agg cs.toArray) w := ⟨fun a ha _ _ _ _ => by
  obtain ⟨inf, hi, hz, _, _⟩ := E.info he
  obtain ⟨inf1, hi1, _, hz1, _⟩ := E.info h1
  have h2 := ha.evps hv
  have h3 := fill_partsF hs
  have hb : (Instr.build t (ps.toArray)).run P w = .ok (.agg cs.toArray) w := by
    unfold Instr.build
    simp [zeroValue, typeInfo, run_underlying (P := P) (E.un ht), hi, hz, Value.cells, sizeOf, hi1, hz1, h3]
  simp only [execOp]
  show Sem.run P (do let v ← Instr.build t ((parts.toArray.map fun (p : Nat × Operand) => (p.1, a.eval p.2))); pure (Next.value v)) w = _
  rw [List.map_toArray, h2]
  simp [hb]⟩
theorem R_indexA (ht : lk E.und t = some (.array m el)) (hdt : lk E.und el = some dt) (hg : aggB dt = true) (h1 : lk E.inf el = some (z, sz1, by1)) (hx : ev fr x = some (.agg cs.toArray)) (hy : ev fr y = some (.int k1 i)) (hi : 0 ≤ i ∧ i < m) (hv : (cs.drop (i.toNat * sz1)).take sz1 = vs) :
    OpV P n fr (.index t x y) ty w (.agg vs.toArray) w := ⟨fun a ha _ _ _ _ => by
  obtain ⟨inf1, hi1, _, hz1, _⟩ := E.info h1
  subst hv
  simp only [execOp, ha.ev hx, ha.ev hy]
  simp [Instr.index, asIntOf, run_underlying (P := P) (E.un ht), hi, part, aggB_t (w := w) hdt hg, sizeOf, typeInfo, hi1, hz1, List.drop_take, Nat.add_sub_cancel_left]⟩
theorem R_index1 (ht : lk E.und t = some (.array m el)) (hdt : lk E.und el = some dt) (hg : aggB dt = false) (h1 : lk E.inf el = some (z, 1, by1)) (hx : ev fr x = some (.agg cs.toArray)) (hy : ev fr y = some (.int k1 i)) (hi : 0 ≤ i ∧ i < m) (hv : cs[i.toNat]? = some v) :
    OpV P n fr (.index t x y) ty w v w := ⟨fun a ha _ _ _ _ => by
  obtain ⟨inf1, hi1, _, hz1, _⟩ := E.info h1
  simp only [execOp, ha.ev hx, ha.ev hy]
  simp [Instr.index, asIntOf, run_underlying (P := P) (E.un ht), hi, part, aggB_run (w := w) hdt hg, sizeOf, typeInfo, hi1, hz1, hv]⟩
/-- An array literal. -/
theorem bda (k : TO E n X s ops rest ((d, .agg cs.toArray) :: fr) A) (hv : evps fr parts = some ps := by rfl) (ht : lk E.und t = some (.array m el) := by rfl) (he : lk E.inf t = some (.agg zs.toArray, sz, by_) := by rfl) (h1 : lk E.inf el = some (z, sz1, by1) := by rfl)
    (hs : setPartsF (fun i => some (i * sz1, sz1)) zs ps = some cs := by rfl) (hd : Nat.blt d n.n = true := by rfl) : TO E n X s ops (⟨some d, .build t parts.toArray, ty, pos, after, none⟩ :: rest) fr A := TO.val (fun _ _ => R_buildArr ht he h1 hv hs) k hd
end
/-- In a quiet region: a call of a function value. -/
theorem SQ_callv {P : Program} {E : Env P} {n : Sh} {Q0 : Exit → Act → World → Prop} {s : List K} {C : World → Prop} {ops : Array Oper} {rest : List Oper} {fr : Fr} {d : Nat} {ty : TypeId} {pos : String} {after : Array Edge} {f : FuncId} {g : Operand} {cap : Array Value} {xs : List Operand} {ats : Array TypeId} {vs : List Value} {v : Value} (hg : ev fr g = some (.func (.func f) #[] cap)) (hv : evs fr xs = some vs) (hd : Nat.blt d n.n = true)
    (hf : ∀ w', C w' → Fn P f (vs ++ cap.toList) w' fun u w'' => u = v ∧ C w'') (h : SQ E n Q0 s C ops rest ((d, v) :: fr)) :
    SQ E n Q0 s C ops (⟨some d, .call ⟨.value g, xs.toArray, ats⟩, ty, pos, after, none⟩ :: rest) fr := ⟨fun a ha => by
  refine wpQuiet_step fun K hK => ?_
  simp only [Region.wanted, if_true]
  refine ⟨v, fun w' hw' => ?_, hK _ (h.run _ (ha.put hd v))⟩
  unfold Oper.quietAt
  rw [run_callv (ha.ev hg) (ha.evs hv) (hf w' hw').can]
  exact ⟨rfl, (hf w' hw').calls.mono fun e w'' ⟨u, he, hu, hC⟩ => ⟨by rw [he, hu], hC⟩⟩⟩
section
variable {P : Program} {E : Env P} {n : Sh} {X : Cx} {s : List K} {fr : Fr} {A : List Ch} {ops : Array Oper} {rest : List Oper} {d : Nat} {ty : TypeId} {pos : String} {after : Array Edge} {v : Value} {f : FuncId} {g : Operand} {cap : Array Value} {args : List Operand} {ats : Array TypeId} {vs : List Value} {pre : List Ch} {R : Value → List Ch → Prop}
theorem qcav (hf : Tr P f (vs ++ cap.toList) pre [] R) (hR : ∀ u D, R u D → u = v ∧ D = []) (k : TQ E n X s ops rest ((d, v) :: fr) A) (hg : ev fr g = some (.func (.func f) #[] cap) := by rfl) (hv : evs fr args = some vs := by rfl)
    (hp : ∀ c ∈ pre, Has A c := by (repeat (first | exact has0 | refine has1 (by first | (apply has_vw; (repeat (first | apply List.Mem.head | apply List.Mem.tail)); first | done | fail) | (apply has_own; (repeat (first | apply List.Mem.head | apply List.Mem.tail)); first | done | fail) | (apply has_ro; (repeat (first | apply List.Mem.head | apply List.Mem.tail)); first | done | fail) | apply has_nil | ((with_reducible apply has_el); (focus (first | (apply has_vels; (repeat (first | apply List.Mem.head | apply List.Mem.tail)); first | done | fail) | (apply has_rels; (repeat (first | apply List.Mem.head | apply List.Mem.tail)); first | done | fail))); omega) | (apply has_pt; (repeat (first | apply List.Mem.head | apply List.Mem.tail)); first | done | fail) | (apply has_lpt; (repeat (first | apply List.Mem.head | apply List.Mem.tail)); first | done | fail) | (apply has_vels; (repeat (first | apply List.Mem.head | apply List.Mem.tail)); first | done | fail) | (apply has_rels; (repeat (first | apply List.Mem.head | apply List.Mem.tail)); first | done | fail) | with_reducible assumption | ((with_reducible apply has_elg); (focus (first | (apply has_velg; (repeat (first | apply List.Mem.head | apply List.Mem.tail)); first | done | fail) | (apply has_relg; (repeat (first | apply List.Mem.head | apply List.Mem.tail)); first | done | fail))); omega) | (apply has_velg; (repeat (first | apply List.Mem.head | apply List.Mem.tail)); first | done | fail) | (apply has_relg; (repeat (first | apply List.Mem.head | apply List.Mem.tail)); first | done | fail) | (apply has_vwf; (repeat (first | apply List.Mem.head | apply List.Mem.tail)); first | done | fail)) ?_)); first | done | fail) (hd : Nat.blt d n.n = true := by rfl) : TQ E n X s ops (⟨some d, .call ⟨.value g, args.toArray, ats⟩, ty, pos, after, none⟩ :: rest) fr A :=
  ⟨SQ_callv hg hv hd (fun w hw => (hf.at (F := A) Fit.nil hp hw).mono fun u w' ⟨D, hu, hS⟩ => by obtain ⟨rfl, rfl⟩ := hR u D hu; exact ⟨rfl, hS⟩) k.run⟩
end
end Go.Art
set_option linter.unusedSimpArgs false
set_option linter.unusedVariables false
namespace Go.Art
open Go Go.Proofs Go.RowKit

/-- The kinds' forms: has it a block, data, a reason. -/
def frmB (k : Int) : Bool := decide (k = 1) || decide (k = 2)
def frmD (k : Int) : Bool := decide (k = 1) || decide (k = 5)
def frmR (k : Int) : Int := if k = 4 then 1 else 0
def frm (k : Int) : List Value := [.bool (frmB k), .bool (frmD k), I (frmR k)]
def formL : List Value := [.bool false, .bool false, I 0, .bool true, .bool true, I 0, .bool true, .bool false, I 0, .bool false, .bool false, I 0, .bool false, .bool false, I 1, .bool false, .bool true, I 0]
theorem frm_at {k : Int} (h : 1 ≤ k ∧ k ≤ 5) : (formL.drop (k.toNat * 3)).take 3 = frm k := by
  have h5 : k = 1 ∨ k = 2 ∨ k = 3 ∨ k = 4 ∨ k = 5 := by omega
  rcases h5 with rfl | rfl | rfl | rfl | rfl <;> rfl
theorem frm_one (k : Int) : ∀ v ∈ frm k, v.oneCell' = true := fun v hv => by
  simp only [frm, List.mem_cons, List.not_mem_nil, or_false] at hv
  rcases hv with rfl | rfl | rfl <;> rfl
def pkOk (kd sn bn pn rn : Int) (len : Nat) : Prop := (1 ≤ kd ∧ kd ≤ 5) ∧ (0 ≤ sn ∧ sn ≤ 4294967295) ∧ (0 ≤ bn ∧ bn ≤ bif frmB kd then 4294967295 else 0) ∧ (0 ≤ pn ∧ pn ≤ bif frmB kd && frmD kd then 4294967295 else 0) ∧
  (((bif frmD kd then 1 else 0) : Int) ≤ len ∧ (len : Int) ≤ bif frmD kd then 65535 else 0) ∧ frmR kd ≤ rn ∧ rn ≤ frmR kd * 15
instance (kd sn bn pn rn : Int) (len : Nat) : Decidable (pkOk kd sn bn pn rn len) := by unfold pkOk; infer_instance
def pkE (kd sn bn pn rn : Int) (len : Nat) : Int := if pkOk kd sn bn pn rn len then 0 else 2
attribute [local irreducible] Fit pt own ro vw mpc lpt vels rels mow lrc dfr
attribute [local irreducible] lmp lme mit velg relg
abbrev TPk : TypeId := 36
abbrev TFm : TypeId := 81
theorem forms_tr : Tr Tryz.prog 38 [] [] [] fun v D => v = .agg formL.toArray ∧ D = [] := by
  refine Tr.enter env _ Tryz.func38 (by kernel_rfl) rfl Tryz.ntmps38 rfl (by repeat (first | exact has00 | refine has01 ?_)) fun w0 => ?_
  repeat' first|refine al fun b => ?_|refine bdz ?_|refine bda ?_|refine srz ?_|refine sq ?_|refine rg ?_|refine xc ?_|refine nl ?_|refine rt ?_
  exact rca1 (vs := formL) ⟨rfl, rfl⟩
theorem within_tr (n lo hi : Int) : Tr Tryz.prog 37 [I n, I lo, I hi] [] [] fun v D => v = .bool (decide (lo ≤ n ∧ n ≤ hi)) ∧ D = [] := by
  refine Tr.enter env _ Tryz.func37 (by kernel_rfl) rfl Tryz.ntmps37 rfl (by repeat (first | exact has00 | refine has01 ?_)) fun w0 => ?_
  repeat' first|(refine wo ?_; first|(refine ao ?_; first|refine oa ?_)|refine oa ?_|refine gy ?_|refine gn ?_|(refine gsi (fun hB => ?_) (fun hB => ?_) <;> try (exfalso; omega)))|refine sq ?_|refine rg ?_|refine xc ?_|refine nl ?_|refine rt ?_
  all_goals refine r1 ⟨?_, rfl⟩
  all_goals first
    | rw [decide_eq_false (fun h : lo ≤ n ∧ n ≤ hi => by omega)]
    | (congr 1; exact decide_eq_decide.2 ⟨fun h => by omega, fun h => by omega⟩)
theorem most_t (n : Int) : Tr Tryz.prog 74 [.bool true, I n] [] [] fun v D => v = I n ∧ D = [] := by
  refine Tr.enter env _ Tryz.func74 (by kernel_rfl) rfl Tryz.ntmps74 rfl (by repeat (first | exact has00 | refine has01 ?_)) fun w0 => ?_
  repeat' first|(refine wo ?_; first|refine oa ?_)|(refine gc ?_; first|refine ct ?_)|refine sq ?_|refine rg ?_|refine xc ?_|refine nl ?_|refine rt ?_
  exact r1 ⟨rfl, rfl⟩
theorem most_f (n : Int) : Tr Tryz.prog 74 [.bool false, I n] [] [] fun v D => v = I 0 ∧ D = [] := by
  refine Tr.enter env _ Tryz.func74 (by kernel_rfl) rfl Tryz.ntmps74 rfl (by repeat (first | exact has00 | refine has01 ?_)) fun w0 => ?_
  repeat' first|(refine wo ?_; first|refine oa ?_)|(refine gc ?_; first|refine cf ?_)|refine sq ?_|refine rg ?_|refine xc ?_|refine nl ?_|refine sk ?_|refine rt ?_
  exact r1 ⟨rfl, rfl⟩
set_option maxHeartbeats 2000000 in
theorem PCheck_tr (kd sn bn pn rn : Int) (dv : Value) (l : List Int) (hd : dv.oneCell' = true) : Tr Tryz.prog 43 [.agg #[I kd, I sn, I bn, I pn, I rn, dv]] [vw dv (By l)] [] fun v D => v = I (pkE kd sn bn pn rn l.length) ∧ D = [] := by
  refine Tr.enter env _ Tryz.func43 (by kernel_rfl) rfl Tryz.ntmps43 rfl (by repeat (first | exact has00 | refine has01 ?_)) fun w0 => ?_
  by_cases hk : 1 ≤ kd ∧ kd ≤ 5
  rotate_left
  · have e : pkE kd sn bn pn rn l.length = 2 := if_neg fun h => hk h.1
    rw [e]
    repeat' first|(refine gca ?_; first|(refine ca (within_tr kd 1 5) ?_; rintro _ _ ⟨rfl, rfl⟩; rw [decide_eq_false hk]))|refine bx fun b => ?_|(refine wo ?_; first|refine oa ?_|refine ld ?_|refine gn ?_)|(refine gc ?_; first|refine ct ?_)|refine sq ?_|refine rg ?_|refine xc ?_|refine nl ?_|refine rt ?_
    exact r1 ⟨rfl, rfl⟩
  by_cases hs : 0 ≤ sn ∧ sn ≤ 4294967295
  rotate_left
  · have e : pkE kd sn bn pn rn l.length = 2 := if_neg fun h => hs h.2.1
    rw [e]
    repeat' first|(refine gca ?_; first|(refine ca (within_tr kd 1 5) ?_; rintro _ _ ⟨rfl, rfl⟩; rw [decide_eq_true hk])|(refine ca (within_tr sn 0 4294967295) ?_; rintro _ _ ⟨rfl, rfl⟩; rw [decide_eq_false hs]))|refine bx fun b => ?_|(refine wo ?_; first|refine oa ?_|refine ld ?_|refine gy ?_)|(refine gc ?_; first|refine ct ?_)|refine sq ?_|refine rg ?_|refine xc ?_|refine nl ?_|refine rt ?_
    exact r1 ⟨rfl, rfl⟩
  repeat' first|(refine gca ?_; first|(refine ca (within_tr kd 1 5) ?_; rintro _ _ ⟨rfl, rfl⟩; rw [decide_eq_true hk])|(refine ca (within_tr sn 0 4294967295) ?_; rintro _ _ ⟨rfl, rfl⟩; rw [decide_eq_true hs]))|refine bx fun b => ?_|refine sq_cutX (a := .region 3 _ _) (ι := Nat) (fun _ => True) (fun q => [(1, ptr b), (3, ptr q)]) (fun q => [pt b [I kd, I sn, I bn, I pn, I rn, dv] TPk, pt q (frm kd) TFm, vw dv (By l)]) ?_ (fun kb => ?_)|refine rs (id := 3) (fun w => w.heap[b]? = some (.cells [I kd, I sn, I bn, I pn, I rn, dv].toArray TPk (0, 0))) ?_ (fun w hw => pt_at (by (repeat (first | apply List.Mem.head | apply List.Mem.tail)); first | done | fail) hw)|(refine wo ?_; first|refine oa ?_|refine ld ?_|refine gy ?_)|(refine gc ?_; first|refine cf ?_)|refine sq ?_|refine rg ?_|refine xc ?_|refine nl ?_|refine sk ?_
  rotate_left
  · refine tka 1 ?_
    refine tkl 2 (cs := [I kd, I sn, I bn, I pn, I rn, dv]) (fun w h => h) ?_
    refine t2 0 4 ?_ ?_
    · refine ca forms_tr ?_
      rintro _ _ ⟨rfl, rfl⟩
      refine nl ?_
      refine te (fun w hw => pt_at (by (repeat (first | apply List.Mem.head | apply List.Mem.tail)); first | done | fail) hw) ?_
      refine tk 3 (v := .agg (frm kd).toArray) (hi := rfl) (fun w h => by exact R_indexA (E := env) (cs := formL) rfl rfl rfl rfl rfl rfl (by omega) (frm_at hk)) ?_
      refine t1 4 ?_
      refine al fun p3 => ?_
      refine nl ?_
      refine te (fun w hw => pt_at (by (repeat (first | apply List.Mem.head | apply List.Mem.tail)); first | done | fail) hw) ?_
      refine t1 5 ?_
      refine srz (vs := frm kd) (cs' := frm kd) ?_ (hl := rfl) (h1 := frm_one _) (hj := Nat.le_of_ble_eq_true rfl) (hs := rfl)
      refine nl ?_
      refine te (fun w hw => pt_at (by (repeat (first | apply List.Mem.head | apply List.Mem.tail)); first | done | fail) hw) ?_
      refine t0 ?_
      refine xc ?_
      exact kb p3 trivial _ _ (by (repeat (refine Sub.cons rfl (by first | rfl | go_num) ?_)); exact Sub.nil) (by first | apply Fit.all | ((repeat (first | (apply Fit.nilN; (repeat (first | apply nrm_nil | apply nrm_cons)); try apply nrm_rfl) | (apply Fit.cons; focus ((repeat (first | apply Tk.here | apply Tk.there)); first | done | fail)))); first | done | fail))
    · refine al fun p3 => ?_
      refine nl ?_
      refine te (fun w hw => pt_at (by (repeat (first | apply List.Mem.head | apply List.Mem.tail)); first | done | fail) hw) ?_
      refine t1 0 ?_
      refine ca forms_tr ?_
      rintro _ _ ⟨rfl, rfl⟩
      refine nl ?_
      refine te (fun w hw => pt_at (by (repeat (first | apply List.Mem.head | apply List.Mem.tail)); first | done | fail) hw) ?_
      refine tk 3 (v := .agg (frm kd).toArray) (hi := rfl) (fun w h => by exact R_indexA (E := env) (cs := formL) rfl rfl rfl rfl rfl rfl (by omega) (frm_at hk)) ?_
      refine t1 5 ?_
      refine srz (vs := frm kd) (cs' := frm kd) ?_ (hl := rfl) (h1 := frm_one _) (hj := Nat.le_of_ble_eq_true rfl) (hs := rfl)
      refine nl ?_
      refine te (fun w hw => pt_at (by (repeat (first | apply List.Mem.head | apply List.Mem.tail)); first | done | fail) hw) ?_
      refine t0 ?_
      refine xc ?_
      exact kb p3 trivial _ _ (by (repeat (refine Sub.cons rfl (by first | rfl | go_num) ?_)); exact Sub.nil) (by first | apply Fit.all | ((repeat (first | (apply Fit.nilN; (repeat (first | apply nrm_nil | apply nrm_cons)); try apply nrm_rfl) | (apply Fit.cons; focus ((repeat (first | apply Tk.here | apply Tk.there)); first | done | fail)))); first | done | fail))
  intro q _
  have hE : pkE kd sn bn pn rn l.length = if (0 ≤ bn ∧ bn ≤ bif frmB kd then 4294967295 else 0) ∧ (0 ≤ pn ∧ pn ≤ bif frmB kd && frmD kd then 4294967295 else 0) ∧
      (((bif frmD kd then 1 else 0) : Int) ≤ l.length ∧ (l.length : Int) ≤ bif frmD kd then 65535 else 0) ∧ frmR kd ≤ rn ∧ rn ≤ frmR kd * 15 then 0 else 2 := by
    unfold pkE pkOk
    by_cases h : (0 ≤ bn ∧ bn ≤ bif frmB kd then 4294967295 else 0) ∧ (0 ≤ pn ∧ pn ≤ bif frmB kd && frmD kd then 4294967295 else 0) ∧
      (((bif frmD kd then 1 else 0) : Int) ≤ l.length ∧ (l.length : Int) ≤ bif frmD kd then 65535 else 0) ∧ frmR kd ≤ rn ∧ rn ≤ frmR kd * 15
    · exact (if_pos ⟨hk, hs, h⟩).trans (if_pos h).symm
    · exact (if_neg fun g => h g.2.2).trans (if_neg h).symm
  have hr : frmR kd = 0 ∨ frmR kd = 1 := by unfold frmR; split <;> simp
  rw [hE]
  unfold frm
  clear hE
  generalize frmB kd = fb at *
  generalize frmD kd = fd at *
  generalize frmR kd = fr at *
  cases fb <;> cases fd
  all_goals
    simp only [cond_true, cond_false, Bool.and_true, Bool.true_and, Bool.and_false, Bool.false_and]
    repeat' first|(refine cav (vs := [.bool true, I _]) (cap := #[]) (most_t _) ?_; rintro _ _ ⟨rfl, rfl⟩)|(refine cav (vs := [.bool false, I _]) (cap := #[]) (most_f _) ?_; rintro _ _ ⟨rfl, rfl⟩)|(refine qcav (vs := [.bool true, I _]) (cap := #[]) (most_t _) (fun _ _ h => h) ?_)|(refine qcav (vs := [.bool false, I _]) (cap := #[]) (most_f _) (fun _ _ h => h) ?_)|(refine qca (within_tr _ _ _) (fun _ _ h => h) ?_)|(refine wo ?_; first|refine oa ?_|refine ld ?_)|(refine gc ?_; first|refine ct ?_|(refine cn (fun hB => ?_) (fun hB => ?_) <;> try (exfalso; omega)))|refine sq ?_|refine rg ?_|refine xc ?_|refine nl ?_|refine sk ?_|refine rt ?_|refine rq ?_|refine nq ?_|(refine wq ?_; first|(refine qao ?_; first|refine qaw ?_)|refine qa ?_|refine qld ?_|refine qlnm ?_|refine qgy ?_|refine qgn ?_|refine qgu ?_|(refine qgsn (fun hB => ?_) (fun hB => ?_) <;> try (exfalso; omega)))
    all_goals refine r1 ⟨?_, rfl⟩
    all_goals first | rw [if_pos (by omega)] | rw [if_neg (by omega)]
end Go.Art
set_option linter.unusedSimpArgs false
set_option linter.unusedVariables false
namespace Go.Art
open Go Go.Proofs Go.RowKit

/-- A packet's bytes, without the check sum. -/
def pkB (kd sn bn pn rn : Int) (l : List Int) : List Int :=
  (bif decide (0 < frmR kd) then (bif frmB kd && frmD kd then (bif frmB kd then [] ++ beB 1 kd ++ beB 4 sn ++ beB 4 bn else [] ++ beB 1 kd ++ beB 4 sn) ++ beB 4 pn else (bif frmB kd then [] ++ beB 1 kd ++ beB 4 sn ++ beB 4 bn else [] ++ beB 1 kd ++ beB 4 sn)) ++ beB 1 rn
   else (bif frmB kd && frmD kd then (bif frmB kd then [] ++ beB 1 kd ++ beB 4 sn ++ beB 4 bn else [] ++ beB 1 kd ++ beB 4 sn) ++ beB 4 pn else (bif frmB kd then [] ++ beB 1 kd ++ beB 4 sn ++ beB 4 bn else [] ++ beB 1 kd ++ beB 4 sn))) ++ l
def putR (kd sn bn pn rn : Int) (l : List Int) : List Int × Int := if pkOk kd sn bn pn rn l.length then (sealF (pkB kd sn bn pn rn l), 0) else ([], 2)
theorem frm_five {k : Int} (h : 1 ≤ k ∧ k ≤ 5) : (frmB k = true ∧ frmD k = true ∧ frmR k = 0) ∨ (frmB k = true ∧ frmD k = false ∧ frmR k = 0) ∨ (frmB k = false ∧ frmD k = false ∧ frmR k = 0) ∨ (frmB k = false ∧ frmD k = false ∧ frmR k = 1) ∨ (frmB k = false ∧ frmD k = true ∧ frmR k = 0) := by
  have h5 : k = 1 ∨ k = 2 ∨ k = 3 ∨ k = 4 ∨ k = 5 := by omega
  rcases h5 with rfl | rfl | rfl | rfl | rfl <;> simp [frmB, frmD, frmR]
attribute [local irreducible] Fit pt own ro vw mpc lpt vels rels mow lrc dfr
attribute [local irreducible] lmp lme mit velg relg
set_option maxHeartbeats 2000000 in
theorem PPut_tr (kd sn bn pn rn : Int) (dv : Value) (l : List Int) (hd : dv.oneCell' = true) : Tr Tryz.prog 28 [.agg #[I kd, I sn, I bn, I pn, I rn, dv]] [vw dv (By l)] []
    fun v D => ∃ o, v = tup2 o (I (putR kd sn bn pn rn l).2) ∧ o.oneCell' = true ∧ D = [own TyB o (By (putR kd sn bn pn rn l).1)] := by
  have hck := PCheck_tr kd sn bn pn rn dv l hd
  refine Tr.enter env _ Tryz.func28 (by kernel_rfl) rfl Tryz.ntmps28 rfl (by repeat (first | exact has00 | refine has01 ?_)) fun w0 => ?_
  by_cases hok : pkOk kd sn bn pn rn l.length
  rotate_left
  · rw [show putR kd sn bn pn rn l = ([], 2) from if_neg hok]
    rw [show pkE kd sn bn pn rn l.length = 2 from if_neg hok] at hck
    repeat' first|(refine gca ?_; first|(refine ca hck ?_; rintro _ _ ⟨rfl, rfl⟩))|refine bx fun b => ?_|refine lda ?_|(refine wo ?_; first|(refine ao ?_; first|refine oa ?_)|refine oa ?_)|(refine gc ?_; first|refine ct ?_)|refine sq ?_|refine rg ?_|refine xc ?_|refine nl ?_|refine rt ?_
    refine TX.im (own_nil TyB _) ?_
    exact r2 ⟨nS, rfl, rfl, rfl⟩
  rw [show putR kd sn bn pn rn l = (sealF (pkB kd sn bn pn rn l), 0) from if_pos hok]
  rw [show pkE kd sn bn pn rn l.length = 0 from if_pos hok] at hck
  obtain ⟨hk, hs, hb, hp, hl, hr⟩ := hok
  repeat' first|(refine gca ?_; first|(refine ca hck ?_; rintro _ _ ⟨rfl, rfl⟩)|(refine ca (NewWriter_tr 100000 (by omega)) ?_; rintro _ _ ⟨p, rfl, rfl⟩))|refine bx fun b => ?_|refine lda ?_|refine sq_cutX (a := .region 4 _ _) (ι := Nat) (fun _ => True) (fun q => [(1, ptr b), (4, ptr p), (6, ptr q)]) (fun q => [pt b [I kd, I sn, I bn, I pn, I rn, dv] TPk, pt q (frm kd) TFm, pt p [nS, .bool true, I 100000, I 0] TWr, own TyB nS (By []), vw dv (By l)]) ?_ (fun kb => ?_)|refine rs (id := 4) (fun w => w.heap[b]? = some (.cells [I kd, I sn, I bn, I pn, I rn, dv].toArray TPk (0, 0))) ?_ (fun w hw => pt_at (by (repeat (first | apply List.Mem.head | apply List.Mem.tail)); first | done | fail) hw)|(refine wo ?_; first|(refine ao ?_; first|refine oa ?_)|refine oa ?_)|(refine gc ?_; first|refine cf ?_)|refine sq ?_|refine rg ?_|refine xc ?_|refine nl ?_|refine sk ?_
  rotate_left
  · refine tka 1 ?_
    refine tkl 2 (cs := [I kd, I sn, I bn, I pn, I rn, dv]) (fun w h => h) ?_
    refine t2 0 4 ?_ ?_
    · refine ca forms_tr ?_
      rintro _ _ ⟨rfl, rfl⟩
      refine nl ?_
      refine te (fun w hw => pt_at (by (repeat (first | apply List.Mem.head | apply List.Mem.tail)); first | done | fail) hw) ?_
      refine tk 3 (v := .agg (frm kd).toArray) (hi := rfl) (fun w h => by exact R_indexA (E := env) (cs := formL) rfl rfl rfl rfl rfl rfl (by omega) (frm_at hk)) ?_
      refine t1 4 ?_
      refine al fun p3 => ?_
      refine nl ?_
      refine te (fun w hw => pt_at (by (repeat (first | apply List.Mem.head | apply List.Mem.tail)); first | done | fail) hw) ?_
      refine t1 5 ?_
      refine srz (vs := frm kd) (cs' := frm kd) ?_ (hl := rfl) (h1 := frm_one _) (hj := Nat.le_of_ble_eq_true rfl) (hs := rfl)
      refine nl ?_
      refine te (fun w hw => pt_at (by (repeat (first | apply List.Mem.head | apply List.Mem.tail)); first | done | fail) hw) ?_
      refine t0 ?_
      refine xc ?_
      exact kb p3 trivial _ _ (by (repeat (refine Sub.cons rfl (by first | rfl | go_num) ?_)); exact Sub.nil) (by first | apply Fit.all | ((repeat (first | (apply Fit.nilN; (repeat (first | apply nrm_nil | apply nrm_cons)); try apply nrm_rfl) | (apply Fit.cons; focus ((repeat (first | apply Tk.here | apply Tk.there)); first | done | fail)))); first | done | fail))
    · refine al fun p3 => ?_
      refine nl ?_
      refine te (fun w hw => pt_at (by (repeat (first | apply List.Mem.head | apply List.Mem.tail)); first | done | fail) hw) ?_
      refine t1 0 ?_
      refine ca forms_tr ?_
      rintro _ _ ⟨rfl, rfl⟩
      refine nl ?_
      refine te (fun w hw => pt_at (by (repeat (first | apply List.Mem.head | apply List.Mem.tail)); first | done | fail) hw) ?_
      refine tk 3 (v := .agg (frm kd).toArray) (hi := rfl) (fun w h => by exact R_indexA (E := env) (cs := formL) rfl rfl rfl rfl rfl rfl (by omega) (frm_at hk)) ?_
      refine t1 5 ?_
      refine srz (vs := frm kd) (cs' := frm kd) ?_ (hl := rfl) (h1 := frm_one _) (hj := Nat.le_of_ble_eq_true rfl) (hs := rfl)
      refine nl ?_
      refine te (fun w hw => pt_at (by (repeat (first | apply List.Mem.head | apply List.Mem.tail)); first | done | fail) hw) ?_
      refine t0 ?_
      refine xc ?_
      exact kb p3 trivial _ _ (by (repeat (refine Sub.cons rfl (by first | rfl | go_num) ?_)); exact Sub.nil) (by first | apply Fit.all | ((repeat (first | (apply Fit.nilN; (repeat (first | apply nrm_nil | apply nrm_cons)); try apply nrm_rfl) | (apply Fit.cons; focus ((repeat (first | apply Tk.here | apply Tk.there)); first | done | fail)))); first | done | fail))
  intro q _
  unfold frm pkB
  have n1 := beB_len 1 kd
  have n2 := beB_len 4 sn
  have n3 := beB_len 4 bn
  have n4 := beB_len 4 pn
  have n5 := beB_len 1 rn
  have five := frm_five hk
  generalize hB1 : beB 1 kd = B1 at *
  generalize hB2 : beB 4 sn = B2 at *
  generalize hB3 : beB 4 bn = B3 at *
  generalize hB4 : beB 4 pn = B4 at *
  generalize hB5 : beB 1 rn = B5 at *
  generalize frmB kd = fb at *
  generalize frmD kd = fd at *
  generalize frmR kd = fr at *
  have P1 := fun bv => Put_tr p bv 100000 kd 1 [] (.inl rfl) (by omega) (by simp)
  have P2 := fun bv => Put_tr p bv 100000 sn 4 ([] ++ B1) (.inr (.inr (.inl rfl))) (by omega) (by simp; omega)
  rw [hB1] at P1
  rw [hB2] at P2
  rcases five with ⟨rfl, rfl, rfl⟩ | ⟨rfl, rfl, rfl⟩ | ⟨rfl, rfl, rfl⟩ | ⟨rfl, rfl, rfl⟩ | ⟨rfl, rfl, rfl⟩
  · simp only [cond_true, cond_false, Bool.and_self, Bool.and_true, Bool.true_and, Bool.and_false, Bool.false_and] at hb hp hl
    have P3 := fun bv => Put_tr p bv 100000 bn 4 ([] ++ B1 ++ B2) (.inr (.inr (.inl rfl))) (by omega) (by simp; omega)
    rw [hB3] at P3
    have P4 := fun bv => Put_tr p bv 100000 pn 4 ([] ++ B1 ++ B2 ++ B3) (.inr (.inr (.inl rfl))) (by omega) (by simp; omega)
    rw [hB4] at P4
    have R5 := fun bv => Raw_tr p bv dv 100000 ([] ++ B1 ++ B2 ++ B3 ++ B4) l hd (by simp; omega)
    have Y5 := fun bv => Bytes_tr p bv 100000 ([] ++ B1 ++ B2 ++ B3 ++ B4 ++ l) (by simp; omega)
    have S5 := fun o => Seal_tr o ([] ++ B1 ++ B2 ++ B3 ++ B4 ++ l) (by simp; omega)
    repeat' first|(refine gca ?_; first|(refine ca (P1 _) ?_; rintro _ _ ⟨rfl, bv2, hv2, rfl⟩)|(refine ca (P2 _) ?_; rintro _ _ ⟨rfl, bv2, hv2, rfl⟩)|(refine ca (P3 _) ?_; rintro _ _ ⟨rfl, bv2, hv2, rfl⟩)|(refine ca (P4 _) ?_; rintro _ _ ⟨rfl, bv2, hv2, rfl⟩)|(refine ca (R5 _) ?_; rintro _ _ ⟨rfl, bv2, hv2, rfl⟩)|(refine ca (Y5 _) ?_; rintro _ _ ⟨yo, rfl, hyo, rfl⟩)|(refine ca (S5 _) ?_; rintro zo _ ⟨hzo, rfl⟩))|(refine wo ?_; first|(refine ao ?_; first|refine oa ?_)|refine oa ?_|refine ld ?_|refine gy ?_)|(refine gc ?_; first|refine ct ?_|refine cf ?_)|refine sq ?_|refine rg ?_|refine xc ?_|refine nl ?_|refine sk ?_|refine rt ?_
    exact r2 ⟨zo, rfl, hzo, rfl⟩
  · simp only [cond_true, cond_false, Bool.and_self, Bool.and_true, Bool.true_and, Bool.and_false, Bool.false_and] at hb hp hl
    have P3 := fun bv => Put_tr p bv 100000 bn 4 ([] ++ B1 ++ B2) (.inr (.inr (.inl rfl))) (by omega) (by simp; omega)
    rw [hB3] at P3
    have R5 := fun bv => Raw_tr p bv dv 100000 ([] ++ B1 ++ B2 ++ B3) l hd (by simp; omega)
    have Y5 := fun bv => Bytes_tr p bv 100000 ([] ++ B1 ++ B2 ++ B3 ++ l) (by simp; omega)
    have S5 := fun o => Seal_tr o ([] ++ B1 ++ B2 ++ B3 ++ l) (by simp; omega)
    repeat' first|(refine gca ?_; first|(refine ca (P1 _) ?_; rintro _ _ ⟨rfl, bv2, hv2, rfl⟩)|(refine ca (P2 _) ?_; rintro _ _ ⟨rfl, bv2, hv2, rfl⟩)|(refine ca (P3 _) ?_; rintro _ _ ⟨rfl, bv2, hv2, rfl⟩)|(refine ca (R5 _) ?_; rintro _ _ ⟨rfl, bv2, hv2, rfl⟩)|(refine ca (Y5 _) ?_; rintro _ _ ⟨yo, rfl, hyo, rfl⟩)|(refine ca (S5 _) ?_; rintro zo _ ⟨hzo, rfl⟩))|(refine wo ?_; first|(refine ao ?_; first|refine oa ?_)|refine oa ?_|refine ld ?_|refine gy ?_)|(refine gc ?_; first|refine ct ?_|refine cf ?_)|refine sq ?_|refine rg ?_|refine xc ?_|refine nl ?_|refine sk ?_|refine rt ?_
    exact r2 ⟨zo, rfl, hzo, rfl⟩
  · simp only [cond_true, cond_false, Bool.and_self, Bool.and_true, Bool.true_and, Bool.and_false, Bool.false_and] at hb hp hl
    have R5 := fun bv => Raw_tr p bv dv 100000 ([] ++ B1 ++ B2) l hd (by simp; omega)
    have Y5 := fun bv => Bytes_tr p bv 100000 ([] ++ B1 ++ B2 ++ l) (by simp; omega)
    have S5 := fun o => Seal_tr o ([] ++ B1 ++ B2 ++ l) (by simp; omega)
    repeat' first|(refine gca ?_; first|(refine ca (P1 _) ?_; rintro _ _ ⟨rfl, bv2, hv2, rfl⟩)|(refine ca (P2 _) ?_; rintro _ _ ⟨rfl, bv2, hv2, rfl⟩)|(refine ca (R5 _) ?_; rintro _ _ ⟨rfl, bv2, hv2, rfl⟩)|(refine ca (Y5 _) ?_; rintro _ _ ⟨yo, rfl, hyo, rfl⟩)|(refine ca (S5 _) ?_; rintro zo _ ⟨hzo, rfl⟩))|(refine wo ?_; first|(refine ao ?_; first|refine oa ?_)|refine oa ?_|refine ld ?_|refine gn ?_)|(refine gc ?_; first|refine cf ?_)|refine sq ?_|refine rg ?_|refine xc ?_|refine nl ?_|refine sk ?_|refine rt ?_
    exact r2 ⟨zo, rfl, hzo, rfl⟩
  · simp only [cond_true, cond_false, Bool.and_self, Bool.and_true, Bool.true_and, Bool.and_false, Bool.false_and] at hb hp hl
    have P3 := fun bv => Put_tr p bv 100000 rn 1 ([] ++ B1 ++ B2) (.inl rfl) (by omega) (by simp; omega)
    rw [hB5] at P3
    have R5 := fun bv => Raw_tr p bv dv 100000 ([] ++ B1 ++ B2 ++ B5) l hd (by simp; omega)
    have Y5 := fun bv => Bytes_tr p bv 100000 ([] ++ B1 ++ B2 ++ B5 ++ l) (by simp; omega)
    have S5 := fun o => Seal_tr o ([] ++ B1 ++ B2 ++ B5 ++ l) (by simp; omega)
    repeat' first|(refine gca ?_; first|(refine ca (P1 _) ?_; rintro _ _ ⟨rfl, bv2, hv2, rfl⟩)|(refine ca (P2 _) ?_; rintro _ _ ⟨rfl, bv2, hv2, rfl⟩)|(refine ca (P3 _) ?_; rintro _ _ ⟨rfl, bv2, hv2, rfl⟩)|(refine ca (R5 _) ?_; rintro _ _ ⟨rfl, bv2, hv2, rfl⟩)|(refine ca (Y5 _) ?_; rintro _ _ ⟨yo, rfl, hyo, rfl⟩)|(refine ca (S5 _) ?_; rintro zo _ ⟨hzo, rfl⟩))|(refine wo ?_; first|(refine ao ?_; first|refine oa ?_)|refine oa ?_|refine ld ?_|refine gn ?_)|(refine gc ?_; first|refine ct ?_|refine cf ?_)|refine sq ?_|refine rg ?_|refine xc ?_|refine nl ?_|refine sk ?_|refine rt ?_
    exact r2 ⟨zo, rfl, hzo, rfl⟩
  · simp only [cond_true, cond_false, Bool.and_self, Bool.and_true, Bool.true_and, Bool.and_false, Bool.false_and] at hb hp hl
    have R5 := fun bv => Raw_tr p bv dv 100000 ([] ++ B1 ++ B2) l hd (by simp; omega)
    have Y5 := fun bv => Bytes_tr p bv 100000 ([] ++ B1 ++ B2 ++ l) (by simp; omega)
    have S5 := fun o => Seal_tr o ([] ++ B1 ++ B2 ++ l) (by simp; omega)
    repeat' first|(refine gca ?_; first|(refine ca (P1 _) ?_; rintro _ _ ⟨rfl, bv2, hv2, rfl⟩)|(refine ca (P2 _) ?_; rintro _ _ ⟨rfl, bv2, hv2, rfl⟩)|(refine ca (R5 _) ?_; rintro _ _ ⟨rfl, bv2, hv2, rfl⟩)|(refine ca (Y5 _) ?_; rintro _ _ ⟨yo, rfl, hyo, rfl⟩)|(refine ca (S5 _) ?_; rintro zo _ ⟨hzo, rfl⟩))|(refine wo ?_; first|(refine ao ?_; first|refine oa ?_)|refine oa ?_|refine ld ?_|refine gn ?_)|(refine gc ?_; first|refine cf ?_)|refine sq ?_|refine rg ?_|refine xc ?_|refine nl ?_|refine sk ?_|refine rt ?_
    exact r2 ⟨zo, rfl, hzo, rfl⟩
end Go.Art
