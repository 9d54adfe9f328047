/- The tables of the translation's types, as the rules look into them: each entry is checked by the kernel against the loaded program. Conditions: none. -/
import Derived.Test.YtoapghakfcdflaaProg
import Derived.Test.YtoapghakfcdflaaFw
import Derived.KernelRfl
namespace Go.Art
open Go Go.Proofs
def tyUnd : List (Nat × TypeDesc) := [(2, .int .i64),
  (3, .int .i64),
  (4, .bool),
  (5, .int .u8),
  (9, .string),
  (12, .int .u64),
  (13, .struct #[⟨ "msg", 9, 0, false, "", "runtime", 0⟩, ⟨ "addr", 12, 1, false, "", "runtime", 16⟩]),
  (19, .struct #[⟨ "typ", 17, 0, false, "", "internal/runtime/maps", 0⟩]),
  (20, .interface #[]),
  (21, .int .i32),
  (22, .slice 3),
  (25, .pointer 38),
  (27, .pointer 69),
  (31, .int .i64),
  (35, .interface #[("artesian/lots.draw", 83)]),
  (36, .interface #[("artesian/lots.draw", 83)]),
  (37, .struct #[⟨ "source", 36, 0, true, "", "artesian/lots", 0⟩, ⟨ "used", 3, 1, false, "", "artesian/lots", 16⟩, ⟨ "broken", 4, 2, false, "", "artesian/lots", 24⟩]),
  (38, .struct #[⟨ "source", 36, 0, true, "", "artesian/lots", 0⟩, ⟨ "used", 3, 1, false, "", "artesian/lots", 16⟩, ⟨ "broken", 4, 2, false, "", "artesian/lots", 24⟩]),
  (39, .slice 25),
  (42, .int .u64),
  (49, .int .u64),
  (54, .slice 42),
  (55, .slice 22),
  (68, .struct #[⟨ "L", 22, 0, false, "", "", 0⟩, ⟨ "Seed", 4, 1, false, "", "", 24⟩, ⟨ "State", 42, 2, false, "", "", 32⟩, ⟨ "Told", 3, 3, false, "", "", 40⟩, ⟨ "Broke", 4, 4, false, "", "", 48⟩]),
  (69, .struct #[⟨ "L", 22, 0, false, "", "", 0⟩, ⟨ "Seed", 4, 1, false, "", "", 24⟩, ⟨ "State", 42, 2, false, "", "", 32⟩, ⟨ "Told", 3, 3, false, "", "", 40⟩, ⟨ "Broke", 4, 4, false, "", "", 48⟩]),
  (72, .slice 4),
  (79, .pointer 81),
  (80, .struct #[⟨ "l", 22, 0, false, "", "artesian/lots", 0⟩]),
  (81, .struct #[⟨ "l", 22, 0, false, "", "artesian/lots", 0⟩]),
  (85, .pointer 87),
  (86, .struct #[⟨ "state", 42, 0, false, "", "artesian/lots", 0⟩]),
  (87, .struct #[⟨ "state", 42, 0, false, "", "artesian/lots", 0⟩]),
  (88, .map 3 3),
  (89, .map 3 3),
  (97, .map 3 100),
  (99, .struct #[⟨ "sets", 22, 0, false, "", "artesian/stop", 0⟩]),
  (100, .struct #[⟨ "sets", 22, 0, false, "", "artesian/stop", 0⟩]),
  (111, .slice 3),
  (114, .pointer 111),
  (119, .int .i64),
  (125, .int .u32),
  (127, .int .u64),
  (130, .pointer 3),
  (132, .pointer 127),
  (144, .pointer 5)]
def tyInf : List (Nat × (Value × Nat × Nat)) := [(2, (.int .i64 0, 1, 8)),
  (3, (.int .i64 0, 1, 8)),
  (4, (.bool false, 1, 1)),
  (5, (.int .u8 0, 1, 1)),
  (9, (.string ByteArray.empty, 1, 16)),
  (12, (.int .u64 0, 1, 8)),
  (13, (.agg #[.string ByteArray.empty, .int .u64 0], 2, 24)),
  (19, (.agg #[.pointer none], 1, 8)),
  (20, (.nilIface, 1, 16)),
  (21, (.int .i32 0, 1, 4)),
  (22, (.slice none 0 0, 1, 24)),
  (25, (.pointer none, 1, 8)),
  (27, (.pointer none, 1, 8)),
  (31, (.int .i64 0, 1, 8)),
  (35, (.nilIface, 1, 16)),
  (36, (.nilIface, 1, 16)),
  (37, (.agg #[.nilIface, .int .i64 0, .bool false], 3, 32)),
  (38, (.agg #[.nilIface, .int .i64 0, .bool false], 3, 32)),
  (39, (.slice none 0 0, 1, 24)),
  (42, (.int .u64 0, 1, 8)),
  (49, (.int .u64 0, 1, 8)),
  (54, (.slice none 0 0, 1, 24)),
  (55, (.slice none 0 0, 1, 24)),
  (68, (.agg #[.slice none 0 0, .bool false, .int .u64 0, .int .i64 0, .bool false], 5, 56)),
  (69, (.agg #[.slice none 0 0, .bool false, .int .u64 0, .int .i64 0, .bool false], 5, 56)),
  (72, (.slice none 0 0, 1, 24)),
  (79, (.pointer none, 1, 8)),
  (80, (.agg #[.slice none 0 0], 1, 24)),
  (81, (.agg #[.slice none 0 0], 1, 24)),
  (85, (.pointer none, 1, 8)),
  (86, (.agg #[.int .u64 0], 1, 8)),
  (87, (.agg #[.int .u64 0], 1, 8)),
  (88, (.map none, 1, 8)),
  (89, (.map none, 1, 8)),
  (97, (.map none, 1, 8)),
  (99, (.agg #[.slice none 0 0], 1, 24)),
  (100, (.agg #[.slice none 0 0], 1, 24)),
  (111, (.slice none 0 0, 1, 24)),
  (114, (.pointer none, 1, 8)),
  (119, (.int .i64 0, 1, 8)),
  (125, (.int .u32 0, 1, 4)),
  (127, (.int .u64 0, 1, 8)),
  (130, (.pointer none, 1, 8)),
  (132, (.pointer none, 1, 8)),
  (144, (.pointer none, 1, 8))]
theorem tyUnd_ok : tyUnd.map (fun p => Try.prog.underlying p.1) = tyUnd.map (fun p => some p.2) := by kernel_rfl
theorem tyInf_ok : tyInf.map (fun p => (Try.prog.info? p.1).map (fun i => (i.zero, i.size, i.bytes))) = tyInf.map (fun p => some (some p.2.1, p.2.2.1, p.2.2.2)) := by kernel_rfl
theorem follows_mixed : Try.prog.follows .mixedOrders = true := by kernel_rfl
theorem of_map_eq {α β : Type} {f g : α → β} : ∀ {l : List α}, l.map f = l.map g → ∀ p ∈ l, f p = g p
  | [], _, _, hp => by cases hp
  | a :: r, h, p, hp => by
    simp only [List.map_cons, List.cons.injEq] at h
    rcases List.mem_cons.1 hp with rfl | hp
    · exact h.1
    · exact of_map_eq h.2 p hp
def env : Env Try.prog where
  und := tyUnd
  und_ok := of_map_eq tyUnd_ok
  inf := tyInf
  inf_ok := of_map_eq tyInf_ok
  mixed := follows_mixed
end Go.Art
