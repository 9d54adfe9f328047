/- The tables of the translation's types, as the rules look into them: each entry is checked by the kernel against the loaded program. Conditions: none. -/
import Derived.Test.YthgghnaioddkcaaProg
import Derived.Test.YthgghnaioddkcaaFw
import Derived.KernelRfl
namespace Go.Art
open Go Go.Proofs
def tyUnd : List (Nat × TypeDesc) := [(2, .int .i64),
  (3, .int .i64),
  (4, .bool),
  (5, .int .u8),
  (9, .string),
  (12, .int .u64),
  (13, .struct #[⟨ "msg", 9, 0, false, "", "runtime", 0⟩, ⟨ "addr", 12, 1, false, "", "runtime", 16⟩]),
  (19, .struct #[⟨ "typ", 17, 0, false, "", "internal/runtime/maps", 0⟩]),
  (20, .interface #[]),
  (21, .int .i32),
  (22, .pointer 30),
  (23, .slice 3),
  (24, .struct #[⟨ "Total", 3, 0, false, "", "", 0⟩, ⟨ "Cut", 23, 1, false, "", "", 8⟩, ⟨ "Other", 23, 2, false, "", "", 32⟩]),
  (25, .struct #[⟨ "Total", 3, 0, false, "", "", 0⟩, ⟨ "Cut", 23, 1, false, "", "", 8⟩, ⟨ "Other", 23, 2, false, "", "", 32⟩]),
  (26, .struct #[⟨ "a", 25, 0, false, "", "artesian/encode", 0⟩, ⟨ "k", 3, 3, false, "", "artesian/encode", 56⟩, ⟨ "seed", 3, 4, false, "", "artesian/encode", 64⟩, ⟨ "block", 3, 5, false, "", "artesian/encode", 72⟩]),
  (27, .struct #[⟨ "a", 25, 0, false, "", "artesian/encode", 0⟩, ⟨ "k", 3, 3, false, "", "artesian/encode", 56⟩, ⟨ "seed", 3, 4, false, "", "artesian/encode", 64⟩, ⟨ "block", 3, 5, false, "", "artesian/encode", 72⟩]),
  (28, .slice 32),
  (29, .struct #[⟨ "sampler", 27, 0, true, "", "artesian/encode", 0⟩, ⟨ "symbols", 28, 6, false, "", "artesian/encode", 80⟩]),
  (30, .struct #[⟨ "sampler", 27, 0, true, "", "artesian/encode", 0⟩, ⟨ "symbols", 28, 6, false, "", "artesian/encode", 80⟩]),
  (31, .slice 22),
  (32, .slice 5),
  (33, .int .i64),
  (62, .pointer 4),
  (64, .pointer 85),
  (66, .int .u64),
  (67, .struct #[⟨ "k", 3, 0, false, "", "artesian/block", 0⟩, ⟨ "s", 3, 1, false, "", "artesian/block", 8⟩]),
  (68, .struct #[⟨ "k", 3, 0, false, "", "artesian/block", 0⟩, ⟨ "s", 3, 1, false, "", "artesian/block", 8⟩]),
  (78, .pointer 81),
  (80, .struct #[⟨ "state", 66, 0, false, "", "artesian/lots", 0⟩]),
  (81, .struct #[⟨ "state", 66, 0, false, "", "artesian/lots", 0⟩]),
  (82, .interface #[("artesian/lots.draw", 104)]),
  (83, .interface #[("artesian/lots.draw", 104)]),
  (84, .struct #[⟨ "source", 83, 0, true, "", "artesian/lots", 0⟩, ⟨ "used", 3, 1, false, "", "artesian/lots", 16⟩, ⟨ "broken", 4, 2, false, "", "artesian/lots", 24⟩]),
  (85, .struct #[⟨ "source", 83, 0, true, "", "artesian/lots", 0⟩, ⟨ "used", 3, 1, false, "", "artesian/lots", 16⟩, ⟨ "broken", 4, 2, false, "", "artesian/lots", 24⟩]),
  (88, .slice 3),
  (90, .array 8 5),
  (98, .int .u64),
  (99, .pointer 88),
  (100, .array 2 3),
  (106, .map 3 3),
  (107, .map 3 3),
  (116, .int .i64),
  (123, .int .u32),
  (125, .int .u64),
  (129, .pointer 3),
  (131, .pointer 125),
  (143, .pointer 5)]
def tyInf : List (Nat × (Value × Nat × Nat)) := [(2, (.int .i64 0, 1, 8)),
  (3, (.int .i64 0, 1, 8)),
  (4, (.bool false, 1, 1)),
  (5, (.int .u8 0, 1, 1)),
  (9, (.string ByteArray.empty, 1, 16)),
  (12, (.int .u64 0, 1, 8)),
  (13, (.agg #[.string ByteArray.empty, .int .u64 0], 2, 24)),
  (19, (.agg #[.pointer none], 1, 8)),
  (20, (.nilIface, 1, 16)),
  (21, (.int .i32 0, 1, 4)),
  (22, (.pointer none, 1, 8)),
  (23, (.slice none 0 0, 1, 24)),
  (24, (.agg #[.int .i64 0, .slice none 0 0, .slice none 0 0], 3, 56)),
  (25, (.agg #[.int .i64 0, .slice none 0 0, .slice none 0 0], 3, 56)),
  (26, (.agg #[.int .i64 0, .slice none 0 0, .slice none 0 0, .int .i64 0, .int .i64 0, .int .i64 0], 6, 80)),
  (27, (.agg #[.int .i64 0, .slice none 0 0, .slice none 0 0, .int .i64 0, .int .i64 0, .int .i64 0], 6, 80)),
  (28, (.slice none 0 0, 1, 24)),
  (29, (.agg #[.int .i64 0, .slice none 0 0, .slice none 0 0, .int .i64 0, .int .i64 0, .int .i64 0, .slice none 0 0], 7, 104)),
  (30, (.agg #[.int .i64 0, .slice none 0 0, .slice none 0 0, .int .i64 0, .int .i64 0, .int .i64 0, .slice none 0 0], 7, 104)),
  (31, (.slice none 0 0, 1, 24)),
  (32, (.slice none 0 0, 1, 24)),
  (33, (.int .i64 0, 1, 8)),
  (62, (.pointer none, 1, 8)),
  (64, (.pointer none, 1, 8)),
  (66, (.int .u64 0, 1, 8)),
  (67, (.agg #[.int .i64 0, .int .i64 0], 2, 16)),
  (68, (.agg #[.int .i64 0, .int .i64 0], 2, 16)),
  (78, (.pointer none, 1, 8)),
  (80, (.agg #[.int .u64 0], 1, 8)),
  (81, (.agg #[.int .u64 0], 1, 8)),
  (82, (.nilIface, 1, 16)),
  (83, (.nilIface, 1, 16)),
  (84, (.agg #[.nilIface, .int .i64 0, .bool false], 3, 32)),
  (85, (.agg #[.nilIface, .int .i64 0, .bool false], 3, 32)),
  (88, (.slice none 0 0, 1, 24)),
  (90, (.agg #[.int .u8 0, .int .u8 0, .int .u8 0, .int .u8 0, .int .u8 0, .int .u8 0, .int .u8 0, .int .u8 0], 8, 8)),
  (98, (.int .u64 0, 1, 8)),
  (99, (.pointer none, 1, 8)),
  (100, (.agg #[.int .i64 0, .int .i64 0], 2, 16)),
  (106, (.map none, 1, 8)),
  (107, (.map none, 1, 8)),
  (116, (.int .i64 0, 1, 8)),
  (123, (.int .u32 0, 1, 4)),
  (125, (.int .u64 0, 1, 8)),
  (129, (.pointer none, 1, 8)),
  (131, (.pointer none, 1, 8)),
  (143, (.pointer none, 1, 8))]
theorem tyUnd_ok : tyUnd.map (fun p => Try.prog.underlying p.1) = tyUnd.map (fun p => some p.2) := by kernel_rfl
theorem tyInf_ok : tyInf.map (fun p => (Try.prog.info? p.1).map (fun i => (i.zero, i.size, i.bytes))) = tyInf.map (fun p => some (some p.2.1, p.2.2.1, p.2.2.2)) := by kernel_rfl
theorem follows_mixed : Try.prog.follows .mixedOrders = true := by kernel_rfl
theorem of_map_eq {α β : Type} {f g : α → β} : ∀ {l : List α}, l.map f = l.map g → ∀ p ∈ l, f p = g p
  | [], _, _, hp => by cases hp
  | a :: r, h, p, hp => by
    simp only [List.map_cons, List.cons.injEq] at h
    rcases List.mem_cons.1 hp with rfl | hp
    · exact h.1
    · exact of_map_eq h.2 p hp
def env : Env Try.prog where
  und := tyUnd
  und_ok := of_map_eq tyUnd_ok
  inf := tyInf
  inf_ok := of_map_eq tyInf_ok
  mixed := follows_mixed
end Go.Art
