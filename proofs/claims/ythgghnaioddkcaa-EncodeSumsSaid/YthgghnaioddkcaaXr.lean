/- Bytes added bit by bit: the rules. Conditions: none. -/
import Derived.Test.YthgghnaioddkcaaBk
import Derived.Test.YthgghnaioddkcaaHq
import Derived.Laws.CopyRow
set_option linter.unusedSimpArgs false
set_option linter.unusedVariables false
namespace Go.Art
open Go Go.Proofs Go.RowKit

/-- Two bytes, added bit by bit. -/
def bxr (p q : Int) : Int := ((BitVec.ofInt 8 p ^^^ BitVec.ofInt 8 q).toNat : Int)
theorem wrap_u8 (n : Int) : IntKind.u8.wrap n = ((BitVec.ofInt 8 n).toNat : Int) := by
  have : IntKind.u8.wrap n = n % 256 := by simp [IntKind.wrap, IntKind.bits, IntKind.signed]
  rw [this, BitVec.toNat_ofInt]; omega
theorem ofInt8 (p : BitVec 8) : BitVec.ofInt 8 (p.toNat : Int) = p := by
  rw [BitVec.ofInt_natCast]; exact BitVec.ofNat_toNat _ _ |>.trans (by simp)
theorem bxr_assoc (a b c : Int) : bxr (bxr a b) c = bxr a (bxr b c) := by unfold bxr; rw [ofInt8, ofInt8, BitVec.xor_assoc]
theorem bxr_comm (a b : Int) : bxr a b = bxr b a := by unfold bxr; rw [BitVec.xor_comm]
theorem bxr_range (a b : Int) : 0 ≤ bxr a b ∧ bxr a b ≤ 255 := by unfold bxr; have := (BitVec.ofInt 8 a ^^^ BitVec.ofInt 8 b).isLt; omega
theorem bxr_zero {a : Int} (h : 0 ≤ a ∧ a ≤ 255) : bxr 0 a = a := by
  unfold bxr
  have e : BitVec.ofInt 8 0 = 0#8 := by decide
  rw [e, BitVec.zero_xor, BitVec.toNat_ofInt]; omega
/-- What a piece of a slice is, that begins at k. -/
structure Tl (a v : Value) (n k : Nat) : Prop where
  le : k ≤ n
  blk : v.ownBlock = a.ownBlock
  ex : ∃ o c, v = .slice o (n - k) c ∧ n - k ≤ c ∧ c ≤ maxLen ∧ (k < n → ∃ o' c', a = .slice (some o') n c' ∧ o = some (o'.add k))
theorem Tl.zero {w : World} {a : Value} {xs : List Value} (h : Sl w a xs) : Tl a a xs.length 0 := by
  obtain ⟨o, c, rfl, h1, h2, h3⟩ := h
  refine ⟨Nat.zero_le _, rfl, o, c, rfl, by omega, h2, fun hlt => ?_⟩
  obtain ⟨x, rfl, _⟩ := h3 0 _ (List.getElem?_eq_getElem hlt)
  exact ⟨x, c, rfl, by rw [show x.add 0 = x by unfold Addr.add; simp]⟩
theorem Tl.sl {w : World} {a v : Value} {xs : List Value} {k : Nat} (t : Tl a v xs.length k) (h : Sl w a xs) : Sl w v (xs.drop k) := by
  obtain ⟨o, c, rfl, h1, h2, h3⟩ := t.ex
  have hl : (xs.drop k).length = xs.length - k := by simp
  refine ⟨o, c, by rw [hl], by rw [hl]; exact h1, h2, fun i u hu => ?_⟩
  rw [List.getElem?_drop] at hu
  have hk := (List.getElem?_eq_some_iff.1 hu).1
  obtain ⟨o', c', rfl, rfl⟩ := h3 (by omega)
  refine ⟨_, rfl, ?_⟩
  rw [Addr_add_add _ _ _ (.inr trivial)]
  exact h.cell hu
theorem Tl.ad {a v : Value} {n k j : Nat} (t : Tl a v n k) (h : k + j < n) : addrAt v j = addrAt a (k + j) := by
  obtain ⟨o, c, rfl, h1, h2, h3⟩ := t.ex
  obtain ⟨o', c', rfl, rfl⟩ := h3 (by omega)
  show (o'.add k).add j = o'.add (k + j)
  exact Addr_add_add _ _ _ (.inr trivial)
theorem Tl.next {a v : Value} {n k m : Nat} (t : Tl a v n k) (h : k + m ≤ n) : Tl a (slSub v m (n - k)) n (k + m) := by
  have hb := slSub_block v m (n - k)
  obtain ⟨o, c, rfl, h1, h2, h3⟩ := t.ex
  refine ⟨h, hb.trans t.blk, _, c - m, by rw [slSub, show n - (k + m) = n - k - m by omega], by omega, by omega, fun hlt => ?_⟩
  obtain ⟨o', c', rfl, rfl⟩ := h3 (by omega)
  refine ⟨o', c', rfl, ?_⟩
  rw [if_neg (by omega)]
  simp only [Option.map_some]
  rw [Addr_add_add _ _ _ (.inr trivial)]
theorem Tl.head {a v : Value} {n k m : Nat} (t : Tl a v n k) (h : k + m ≤ n) (hm : 0 < m) : ∃ c, slSub v 0 m = .slice (some (addrAt a k)) m c ∧ m ≤ c := by
  obtain ⟨o, c, rfl, h1, h2, h3⟩ := t.ex
  obtain ⟨o', c', rfl, rfl⟩ := h3 (by omega)
  refine ⟨c, ?_, by omega⟩
  simp only [slSub]
  rw [if_neg (by omega)]
  simp [addrAt, Addr.add]
theorem Tl.has {F : List Ch} {a v : Value} {xs : List Value} {k : Nat} (t : Tl a v xs.length k) (h : Has F (vw a xs)) : Has F (vw v (xs.drop k)) :=
  ⟨fun w hw => t.sl (h.P w hw), fun _ h => h, fun _ h => h, fun b hb => h.ft b (by
    rcases hb with hb | hb | hb
    · exact hb.elim
    · exact hb.elim
    · refine .inr (.inr ⟨fun e => hb.1 (by subst e; simp), ?_⟩)
      rw [← t.blk]; exact hb.2)⟩
section
variable {P : Program} {E : Env P} {n : Sh} {X : Cx} {s : List K} {fr : Fr} {A A' : List Ch} {ops : Array Oper} {rest : List Oper} {d : Nat} {ty t t' el : TypeId} {pos : String} {after : Array Edge} {z v u : Value} {x y : Operand} {b j k sz by_ : Nat} {w : World} {p q : Int}
theorem R_bxr (hx : ev fr x = some (y8 p)) (hy : ev fr y = some (y8 q)) : OpV P n fr (.binOp .xor t x y t') ty w (y8 (bxr p q)) w := R_bin hx hy (by
  simp only [binOp, Op.intBits]
  show Result.ok (Value.int .u8 (IntKind.u8.wrap (((BitVec.ofInt 8 p) ^^^ (BitVec.ofInt 8 q)).toNat : Int))) w = _
  rw [wrap_u8, ofInt8]; rfl)
/-- A place in an array that lies in memory. -/
theorem R_idxP {m : Nat} {i : Int} {k1 : IntKind} (ht : lk E.und t = some (.array m el)) (he : lk E.inf el = some (z, 1, by_)) (hx : ev fr x = some (.pointer (some ⟨b, j, none⟩))) (hy : ev fr y = some (.int k1 i)) (h : 0 ≤ i ∧ i < m) :
    OpV P n fr (.indexAddr t x y) ty w (.pointer (some ⟨b, j + i.toNat, none⟩)) w := ⟨fun a ha _ _ _ _ => by
  obtain ⟨inf, hi, _, hsz, _⟩ := E.info he
  simp only [execOp, ha.ev hx, ha.ev hy]
  simp [Instr.indexAt, asIntOf, run_underlying (P := P) (E.un ht) w, h, sizeOf, typeInfo, hi, hsz, Instr.sureAddr, Addr.add_lit]⟩
theorem R_arr {m c : Nat} {ad : Addr} (ht : lk E.und t = some (.array m el)) (hx : ev fr x = some (.slice (some ad) m c)) : OpV P n fr (.sliceToArrayPointer t x) ty w (.pointer (some ad)) w := ⟨fun a ha _ _ _ _ => by
  simp only [execOp, ha.ev hx]
  simp [Instr.arrayAt, run_underlying (P := P) (E.un ht) w]⟩
theorem R_loadArr {vs : List Value} {dt : TypeDesc} {ad : Addr} (ht : lk E.und t = some dt) (hg : aggB dt = true) (hi : lk E.inf t = some (z, sz, by_)) (hx : ev fr x = some (.pointer (some ad))) (hv : ∀ m u, vs[m]? = some u → w.cell? (ad.add m) = some u) (hl : vs.length = sz) :
    OpV P n fr (.load t x) ty w (.agg vs.toArray) w := ⟨fun a ha _ _ _ _ => by
  obtain ⟨inf, h1, _, h2, _⟩ := E.info hi
  have h3 := run_loadCells_list (P := P) w ad vs hv
  rw [hl] at h3
  simp only [execOp, ha.ev hx]
  simp [Instr.loadAt, Instr.sureAddr, loadVar, aggB_t (w := w) ht hg, sizeOf, typeInfo, h1, h2, h3]⟩
/-- The whole of an array that lies in memory, as a slice. -/
theorem R_slArr {m : Nat} (ht : lk E.und t = some (.array m el)) (he : lk E.inf el = some (z, 1, by_)) (hx : ev fr x = some (.pointer (some ⟨b, 0, none⟩))) : OpV P n fr (.slice t x none none none) ty w (.slice (some ⟨b, 0, none⟩) m m) w := ⟨fun a ha _ _ _ _ => by
  obtain ⟨inf, hi, _, hsz, _⟩ := E.info he
  simp only [execOp, ha.ev hx]
  simp [Instr.sliceAt, run_underlying (P := P) (E.un ht) w, Instr.sliceBounds, Instr.sureAddr, sizeOf, typeInfo, hi, hsz, Addr.add]⟩
/-- Cells laid over a list. -/
def lay (l : List Int) (k : Nat) (m : List Int) : List Int := l.take k ++ m ++ l.drop (k + m.length)
theorem lay_len {l m : List Int} {k : Nat} (h : k + m.length ≤ l.length) : (lay l k m).length = l.length := by unfold lay; simp; omega
/-- copy into a piece of an own slice. -/
theorem SO_copyO {e : TypeId} {a v : Value} {xs cs : List Value} {ad : Addr} {c : Nat} (hd : Nat.blt d n.n = true) (ht : lk E.und t = some (.slice e)) (he : lk E.inf e = some (z, 1, by_)) (hown : OwnO w e a xs) (tl : Tl a v xs.length k) (hk : k + cs.length ≤ xs.length) (h0 : 0 < cs.length)
    (hx : ev fr x = some v) (hy : ev fr y = some (.slice (some ad) cs.length c)) (hsrc : ∀ j u, cs[j]? = some u → w.cell? (ad.add j) = some u) (h1 : ∀ c ∈ cs, c.oneCell' = true)
    (h : ∀ w', Upd w w' a.ownBlock.toList → OwnO w' e a (xs.take k ++ cs ++ xs.drop (k + cs.length)) → SO E n X.Q s ops rest ((d, I cs.length) :: fr) w') :
    SO E n X.Q s ops (⟨some d, .call ⟨.builtin .copy, #[x, y], #[t, t']⟩, ty, pos, after, none⟩ :: rest) fr w := by
  obtain ⟨inf, hi, _, hsz, _⟩ := E.info he
  rcases hown with ⟨_, rfl⟩ | ⟨g, o, cap, cur, rfl, hb, h2, h3, h4, h5⟩
  · simp only [List.length_nil] at hk; omega
  · obtain ⟨o1, c1, rfl, g1, g2, g3⟩ := tl.ex
    obtain ⟨o', c', e1, rfl⟩ := g3 (by omega)
    cases e1
    rw [Addr.add_lit] at hx
    have hrun := run_copy_row (P := P) w t t' ty e g (o + k) (xs.length - k) c1 ad cs.length c cur e cs (E.un ht) (by rw [hi]; simp [hsz]) hb (by simp only [Nat.min_def]; split <;> omega) hsrc (by omega) h1
    refine SO_v hd (w' := w.setRow g (cur.toList.take (o + k) ++ cs ++ cur.toList.drop (o + k + cs.length)).toArray) (v := I cs.length) ⟨fun a ha' _ _ _ _ => ?_⟩ (h _ (by simpa [Value.ownBlock] using Upd.setRow w g _) (.inr ⟨g, o, cap, _, ?_, setRow_heap w g cur _ e _ hb, ?_, h3, ?_, ?_⟩))
    · simp only [execOp, resolve]
      simp [ha'.ev hx, ha'.ev hy, invoke, builtin, hrun, goInt]
    · rw [show (xs.take k ++ cs ++ xs.drop (k + cs.length)).length = xs.length by simp; omega]
    · rw [show (xs.take k ++ cs ++ xs.drop (k + cs.length)).length = xs.length by simp; omega]; exact h2
    · simp; omega
    · rw [show (xs.take k ++ cs ++ xs.drop (k + cs.length)).length = xs.length by simp; omega]
      have hx' : xs = (cur.toList.drop o).take xs.length := h5.symm
      have hcl : cur.toList.length = cur.size := by simp
      refine List.ext_getElem? fun i => ?_
      have hgx : ∀ m, m < xs.length → xs[m]? = cur.toList[o + m]? := fun m hm => by
        conv => lhs; rw [hx']
        rw [List.getElem?_take, if_pos hm, List.getElem?_drop]
      by_cases hi' : i < xs.length
      · rw [List.getElem?_take, if_pos hi', List.getElem?_drop]
        simp only [List.getElem?_append, List.getElem?_take, List.getElem?_drop, List.length_append, List.length_take]
        rw [show min (o + k) cur.toList.length = o + k by omega, show min k xs.length = k by omega]
        by_cases c1 : i < k
        · rw [if_pos (by omega), if_pos (by omega), if_pos (by omega), if_pos (by omega), if_pos (by omega), if_pos c1, hgx i hi']
        · by_cases c2 : i < k + cs.length
          · rw [if_pos (by omega), if_neg (by omega), if_pos (by omega), if_neg (by omega)]
            congr 1; omega
          · rw [if_neg (by omega), if_neg (by omega), hgx _ (by omega)]
            congr 1; omega
      · rw [List.getElem?_eq_none (by simp; omega), List.getElem?_eq_none (by simp; omega)]
end
end Go.Art
