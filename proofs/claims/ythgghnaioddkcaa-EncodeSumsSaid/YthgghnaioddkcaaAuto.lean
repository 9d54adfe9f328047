/- One rule for all plain operations: their value is reckoned. Conditions: none. -/
import Derived.Test.YthgghnaioddkcaaObj
set_option linter.unusedSimpArgs false
set_option linter.unusedVariables false
namespace Go.Art
open Go Go.RowKit

def plus0 : Nat → Nat → Nat
  | 0, k => k
  | o + 1, k => o + 1 + k
theorem plus0_eq (o k : Nat) : plus0 o k = o + k := by cases o <;> simp [plus0]

def evBin (op : BinOp) (k : IntKind) (a b : Int) : Option Value :=
  match op with
  | .add => some (.int k (k.wrap (a + b)))
  | .sub => some (.int k (k.wrap (a - b)))
  | .mul => some (.int k (k.wrap (a * b)))
  | .lss => some (.bool (decide (a < b)))
  | .leq => some (.bool (decide (a ≤ b)))
  | .gtr => some (.bool (decide (b < a)))
  | .geq => some (.bool (decide (b ≤ a)))
  | .eql => some (.bool (decide (a = b)))
  | .neq => some (.bool (!decide (a = b)))
  | _ => none

def sameKind : IntKind → IntKind → Bool
  | .i8, .i8 | .i16, .i16 | .i32, .i32 | .i64, .i64 | .u8, .u8 | .u16, .u16 | .u32, .u32 | .u64, .u64 => true
  | _, _ => false
theorem sameKind_eq {a b : IntKind} (h : sameKind a b = true) : a = b := by cases a <;> cases b <;> first | rfl | (cases h)

def isIface : TypeDesc → Bool
  | .interface _ => true
  | _ => false

def evOp {P : Program} (E : Env P) (fr : Fr) : Op → Option Value
  | .move x => ev fr x
  | .assign x => ev fr x
  | .pick c a b => match ev fr c with
    | some (.bool true) => ev fr a
    | some (.bool false) => ev fr b
    | _ => none
  | .binOp op _ x y _ => match ev fr x with
    | some (.int k a) => match ev fr y with
      | some (.int k' b) => bif sameKind k k' then evBin op k a b else none
      | _ => none
    | _ => none
  | .unOp .not _ x => match ev fr x with
    | some (.bool b) => some (.bool (!b))
    | _ => none
  | .unOp .neg _ x => match ev fr x with
    | some (.int k m) => some (.int k (k.wrap (0 - m)))
    | _ => none
  | .convert s t x => match lk E.und t with
    | some (.int k) => match lk E.und s with
      | some _ => match ev fr x with
        | some (.int _ m) => some (.int k (k.wrap m))
        | _ => none
      | none => none
    | _ => none
  | .nilCheck x => match ev fr x with
    | some (.pointer (some a)) => some (.pointer (some a))
    | _ => none
  | .fieldAddr t x f => match lk E.und t with
    | some (.struct fs) => match ev fr x with
      | some (.pointer (some ⟨b, o, none⟩)) => match fs[f]? with
        | some ⟨_, fty, off, _, _, _, _⟩ => match lk E.inf fty with
          | some (_, sz, _) => bif Nat.beq sz 0 then none else some (.pointer (some ⟨b, plus0 o off, none⟩))
          | none => none
        | none => none
      | _ => none
    | _ => none
  | .extract x i => match ev fr x with
    | some (.tuple vs) => vs[i]?
    | _ => none
  | .makeInterface t x => match lk E.und t with
    | some d => match ev fr x with
      | some v => bif isIface d then none else some (.iface t v)
      | none => none
    | none => none
  | .makeFunc fn first cap => match evs fr first.toList with
    | some a => match evs fr cap.toList with
      | some b => some (.func fn a.toArray b.toArray)
      | none => none
    | none => none
  | .build t parts => match lk E.und t with
    | some (.struct fs) => match lk E.inf t with
      | some (.agg zs, _, _) => match places E.inf fs.toList with
        | some pl => match evps fr parts.toList with
          | some vs => match setParts pl zs.toList vs with
            | some cs => some (.agg cs.toArray)
            | none => none
          | none => none
        | none => none
      | _ => none
    | _ => none
  | _ => none

section
variable {P : Program} {E : Env P} {n : Sh} {fr : Fr} {w : World} {ty : TypeId} {v : Value} {o : Op}

theorem R_auto (h : evOp E fr o = some v) : OpV P n fr o ty w v w := by
  cases o with
  | move x => exact R_move h
  | assign x => exact R_assign h
  | pick c a b =>
    simp only [evOp] at h
    split at h
    · exact R_pick_t ‹_› h
    · exact R_pick_f ‹_› h
    · cases h
  | binOp op t x y t' =>
    simp only [evOp] at h
    split at h
    · rename_i k a hx
      split at h
      · rename_i k' b hy
        cases hk : sameKind k k' with
        | false => rw [hk, cond_false] at h; cases h
        | true =>
          rw [hk, cond_true] at h
          obtain rfl := sameKind_eq hk
          cases op <;> simp only [evBin, Option.some.injEq, reduceCtorEq] at h <;> subst h
          · exact R_add hx hy
          · exact R_sub hx hy
          · exact R_mul hx hy
          · exact R_eql hx hy
          · exact R_neq hx hy
          · exact R_lss hx hy
          · exact R_leq hx hy
          · exact R_gtr hx hy
          · exact R_geq hx hy
      · cases h
    · cases h
  | unOp u t x =>
    cases u <;> simp only [evOp, reduceCtorEq] at h
    · split at h
      · cases h; exact R_neg ‹_›
      · cases h
    · split at h
      · cases h; exact R_not ‹_›
      · cases h
  | convert s t x =>
    simp only [evOp] at h
    split at h
    · split at h
      · split at h
        · cases h; exact R_conv (E := E) ‹_› (by simp [*]) ‹_›
        · cases h
      · cases h
    · cases h
  | nilCheck x =>
    simp only [evOp] at h
    split at h
    · cases h; exact R_nil ‹_›
    · cases h
  | fieldAddr t x f =>
    simp only [evOp] at h
    split at h
    · split at h
      · split at h
        · split at h
          · rename_i fs hfs _ b o hx _ nm fty off _ _ _ _ hf _ z sz by_ hi
            cases hz : Nat.beq sz 0 with
            | true => rw [hz, cond_true] at h; cases h
            | false =>
              rw [hz, cond_false] at h
              cases h
              rw [plus0_eq]
              exact R_fld (E := E) hfs hf hi hz hx
          · cases h
        · cases h
      · cases h
    · cases h
  | extract x i =>
    simp only [evOp] at h
    split at h
    · rename_i vs hx
      exact R_extract (vs := vs.toList) (by simpa using hx) (by simpa using h)
    · cases h
  | makeInterface t x =>
    simp only [evOp] at h
    split at h
    · rename_i d hd
      split at h
      · cases hi : isIface d with
        | true => rw [hi, cond_true] at h; cases h
        | false =>
          rw [hi, cond_false] at h
          cases h
          exact R_iface (E := E) hd (by cases d <;> first | rfl | (cases hi)) ‹_›
      · cases h
    · cases h
  | makeFunc fn first cap =>
    simp only [evOp] at h
    split at h
    · rename_i a ha
      split at h
      · rename_i b hb
        cases h
        exact ⟨fun ac hac _ _ _ _ => by
          have h1 := hac.evs ha
          have h2 := hac.evs hb
          have e1 : first.map ac.eval = a.toArray := Array.ext' (by rw [Array.toList_map, h1])
          have e2 : cap.map ac.eval = b.toArray := Array.ext' (by rw [Array.toList_map, h2])
          simp only [execOp, e1, e2]
          rfl⟩
      · cases h
    · cases h
  | build t parts =>
    simp only [evOp] at h
    split at h
    · split at h
      · split at h
        · split at h
          · split at h
            · cases h
              rename_i fs hfs _ zs sz by_ hi _ pl hpl _ vs hvs _ cs hcs
              have := R_build (P := P) (E := E) (n := n) (fr := fr) (w := w) (ty := ty) (t := t) (fs := fs.toList) (zs := zs.toList) (parts := parts.toList) (by simpa using hfs) (by simpa using hi) hpl hvs hcs
              simpa using this
            · cases h
          · cases h
        · cases h
      · cases h
    · cases h
  | _ => cases h

theorem R_wrap {w' : World} {m : Int} (hr : OpV P n fr o ty w (.int .i64 (IntKind.i64.wrap m)) w') (h : -9223372036854775808 ≤ m ∧ m ≤ 9223372036854775807) : OpV P n fr o ty w (I m) w' := by
  rwa [IntWalk.i64_in _ h] at hr
end

section
variable {P : Program} {E : Env P} {n : Sh} {Q0 : Exit → Act → World → Prop} {s : List K} {fr : Fr} {w : World} {ops : Array Oper} {rest : List Oper} {d : Nat} {ty : TypeId} {pos : String} {after : Array Edge} {v : Value} {o : Op} {C : World → Prop}
theorem SO_a (h : evOp E fr o = some v) (hd : Nat.blt d n.n = true) (k : SO E n Q0 s ops rest ((d, v) :: fr) w) : SO E n Q0 s ops (⟨some d, o, ty, pos, after, none⟩ :: rest) fr w := SO_v hd (R_auto h) k
theorem SQ_a (h : evOp E fr o = some v) (hd : Nat.blt d n.n = true) (k : SQ E n Q0 s C ops rest ((d, v) :: fr)) : SQ E n Q0 s C ops (⟨some d, o, ty, pos, after, none⟩ :: rest) fr := SQ_v hd (fun _ _ => R_auto h) k
theorem SO_b {op : BinOp} {t t' : TypeId} {x y : Operand} (h : SO E n Q0 s ops (⟨some d, .binOp op t x y t', ty, pos, after, none⟩ :: rest) fr w) : SO E n Q0 s ops (⟨some d, .binOp op t x y t', ty, pos, after, none⟩ :: rest) fr w := h
theorem SQ_b {op : BinOp} {t t' : TypeId} {x y : Operand} (h : SQ E n Q0 s C ops (⟨some d, .binOp op t x y t', ty, pos, after, none⟩ :: rest) fr) : SQ E n Q0 s C ops (⟨some d, .binOp op t x y t', ty, pos, after, none⟩ :: rest) fr := h

/-! ### Control -/
theorem SX_ret_all : ∀ {s : List K}, SX E n Q0 [] .ret fr w → SX E n Q0 s .ret fr w
  | [], h => h
  | .code _ :: _, h => SX_code_ret (SX_ret_all h)
  | .block _ :: _, h => SX_block_ret (SX_ret_all h)
  | .loop _ :: _, h => SX_loop_ret (SX_ret_all h)
theorem SC_r (h : SX E n Q0 [] .ret fr w) : SC E n Q0 s .ret fr w := SC_ret (SX_ret_all h)
def popX (id : Nat) : List K → Option (List K)
  | [] => none
  | .block i :: s => bif Nat.beq id i then some s else popX id s
  | _ :: s => popX id s
theorem SX_pop {id : Nat} : ∀ {s s' : List K}, popX id s = some s' → SX E n Q0 s' .normal fr w → SX E n Q0 s (.exit id) fr w
  | [], _, h, _ => by cases h
  | .code _ :: s, s', h, k => SX_code_exit (SX_pop (s := s) h k)
  | .loop _ :: s, s', h, k => SX_loop_exit (SX_pop (s := s) h k)
  | .block i :: s, s', h, k => by
    simp only [popX] at h
    cases hb : Nat.beq id i with
    | true =>
      rw [hb, cond_true] at h; cases h
      obtain rfl := Nat.eq_of_beq_eq_true hb
      exact SX_block_hit k
    | false =>
      rw [hb, cond_false] at h
      exact SX_block_miss hb (SX_pop h k)
theorem SC_e {id : Nat} {s' : List K} (h : popX id s = some s') (k : SX E n Q0 s' .normal fr w) : SC E n Q0 s (.exit id) fr w := SC_exit (SX_pop h k)
end
end Go.Art
