/- The seat's functions for the walker: the kinds of their parameters, where all are data; their live slots, block by block. Written by a program of this session. -/
import Derived.Test.YtdhbelpejaobdaaEvKit
import Derived.Test.YtdhbelpejaobdaaEvCode
namespace Go.Proofs.Ytdhbelpejaobdaa.Ev
open Go
set_option maxRecDepth 100000
structure FnRow where
  fn : Func
  ts : Option (List Ty)
  live : List (Nat × List Nat × List Nat)
def lookL : List (Nat × List Nat × List Nat) → Nat → List Nat × List Nat
  | [], _ => ([], [])
  | (b, x) :: l, n => match Nat.beq b n with | true => x | false => lookL l n
noncomputable def fnRows : List (Option FnRow) := [
  none,
  none,
  some ⟨F2, some [], []⟩,
  some ⟨F3, some [(.li (.co (.li (.it .u8)) (.co (.li (.it .u8)) .ue))), (.it .i64)], []⟩,
  some ⟨F4, some [(.li (.it .u8))], [(0, [0, 3, 5], []), (1, [], [0, 3, 5])]⟩,
  some ⟨F5, some [(.li (.co (.li (.it .u8)) (.co (.li (.it .u8)) .ue))), (.it .i64), (.it .i64)], []⟩,
  some ⟨F6, some [(.li (.it .u8)), (.li (.it .u8))], []⟩,
  some ⟨F7, some [(.li (.co (.li (.it .u8)) (.co (.li (.it .u8)) .ue))), (.it .i64), (.li (.it .u8))], [(0, [0, 2, 7, 10], [0, 2, 7]), (1, [], [0, 2, 7, 10]), (2, [0, 2, 14, 15, 17], [15]), (3, [], [0, 2, 14, 15, 17])]⟩,
  some ⟨F8, some [(.it .i64), (.it .i64)], [(0, [0, 1, 5, 6], [0, 1, 5]), (1, [], [0, 1, 5, 6])]⟩,
  some ⟨F9, some [(.li (.li (.it .u8))), (.it .i64), (.li (.it .u8)), (.li (.it .u8))], []⟩,
  some ⟨F10, some [(.li (.li (.it .u8))), (.it .i64), (.it .i64)], [(0, [0, 1, 2, 7, 9], [0, 1, 2, 7]), (1, [], [0, 1, 2, 7, 9])]⟩,
  some ⟨F11, some [], []⟩,
  some ⟨F12, some [(.li (.co (.li (.it .u8)) (.co (.li (.it .u8)) .ue)))], [(0, [0, 3, 4], [0, 3]), (1, [], [0, 3, 4])]⟩,
  some ⟨F13, some [(.li (.co (.li (.it .u8)) (.co (.li (.it .u8)) .ue)))], [(0, [0, 3, 4], [3]), (1, [], [0, 3, 4])]⟩,
  some ⟨F14, some [(.li (.co (.li (.it .u8)) (.co (.li (.it .u8)) .ue))), (.it .i64)], [(0, [], [0, 1])]⟩,
  some ⟨F15, some [(.li (.co (.li (.it .u8)) (.co (.li (.it .u8)) .ue))), (.it .i64)], []⟩,
  some ⟨F16, some [(.li (.it .u8)), (.li (.it .u8))], []⟩,
  some ⟨F17, some [(.li (.co (.li (.it .u8)) (.co (.li (.it .u8)) .ue))), (.li (.co (.li (.it .u8)) (.co (.li (.it .u8)) .ue)))], [(0, [0, 1, 5], []), (1, [], [0, 1, 5])]⟩,
  some ⟨F18, some [(.li (.it .u8))], [(0, [0, 5, 7, 8, 9, 10, 11], [0, 5, 8, 10]), (1, [], [0, 5, 7, 8, 9, 10, 11])]⟩,
  some ⟨F19, some [(.li (.it .u8))], [(0, [0, 4, 5, 7], []), (1, [], [0, 4, 5, 7])]⟩,
  some ⟨F20, some [(.li (.it .u8)), (.li (.it .u8))], []⟩,
  some ⟨F21, some [(.li (.it .u8)), (.li (.it .u8))], [(0, [1, 4, 7, 9], [4]), (1, [], [1, 4, 7, 9])]⟩,
  some ⟨F22, some [(.li (.it .u8))], [(0, [0, 2], []), (1, [], [0, 2])]⟩,
  some ⟨F23, some [(.li (.it .u8))], []⟩,
  some ⟨F24, some [(.li (.it .u8)), (.li (.it .u8))], [(0, [], [])]⟩,
  some ⟨F25, some [(.li (.li (.it .u8))), (.it .i64)], [(0, [6, 7, 8, 34, 35, 36], [6, 7]), (1, [], [6, 7, 8, 34, 35, 36])]⟩,
  some ⟨F26, some [(.li (.li (.it .u8)))], [(0, [0, 3, 4], [0, 3]), (1, [], [0, 3, 4])]⟩,
  some ⟨F27, some [(.li (.li (.it .u8))), (.it .i64)], [(0, [0, 6, 8, 9], [6, 8]), (1, [], [0, 6, 8, 9]), (2, [0, 6, 8, 9, 10, 11], [0, 6, 8, 9]), (3, [], [0, 6, 8, 9, 10, 11])]⟩,
  some ⟨F28, some [(.li (.it .u8)), (.li (.it .u8))], []⟩,
  some ⟨F29, some [(.li (.it .u8)), (.li (.it .u8))], [(0, [0, 6, 7], []), (1, [], [0, 6, 7])]⟩,
  some ⟨F30, some [(.li (.it .u8)), (.it .u64), (.it .i64)], []⟩,
  some ⟨F31, some [(.li (.co (.li (.it .u8)) (.co (.li (.it .u8)) .ue)))], [(0, [0, 9, 10, 11], []), (1, [], [0, 9, 10, 11])]⟩,
  some ⟨F32, some [(.li (.co (.li (.it .u8)) (.co (.li (.it .u8)) .ue))), (.it .i64)], [(0, [0, 1, 5, 6, 7, 13, 14, 15], [5, 6, 7]), (1, [], [0, 1, 5, 6, 7, 13, 14, 15]), (2, [0, 1, 5, 6, 7, 9, 10, 13, 14, 15, 50, 51], [0, 1, 5, 6, 7, 9, 10, 13, 14, 15]), (3, [], [0, 1, 5, 6, 7, 9, 10, 13, 14, 15, 50, 51])]⟩,
  some ⟨F33, some [(.li (.co (.li (.it .u8)) (.co (.li (.it .u8)) .ue)))], [(0, [0, 3], []), (1, [], [0, 3])]⟩,
  some ⟨F34, some [(.li (.co (.li (.it .u8)) (.co (.li (.it .u8)) .ue))), (.it .i64)], [(0, [0, 1, 5, 6, 7], [5, 6]), (1, [], [0, 1, 5, 6, 7]), (2, [5, 6, 9], [5, 6]), (3, [], [5, 6, 9])]⟩,
  some ⟨F35, some [(.li (.it .u8))], []⟩,
  some ⟨F36, none, []⟩,
  some ⟨F37, some [(.li (.it .u8)), (.li (.it .u8))], []⟩,
  some ⟨F38, some [(.li (.it .u8)), (.it .i64), (.it .i64)], [(0, [0, 1, 7, 8], [7]), (1, [], [0, 1, 7, 8])]⟩,
  some ⟨F39, some [(.li (.it .u8))], [(0, [0, 4, 5, 6], [4]), (1, [], [0, 4, 5, 6]), (2, [0, 4, 5, 6, 7, 8], [0, 4, 5, 6, 7]), (3, [], [0, 4, 5, 6, 7, 8])]⟩,
  some ⟨F40, some [(.li (.it .u8))], []⟩,
  some ⟨F41, none, [(0, [1, 5, 6], [5]), (1, [], [1, 5, 6])]⟩,
  some ⟨F42, none, []⟩,
  some ⟨F43, some [(.li (.it .u8)), (.li (.it .u8))], []⟩,
  some ⟨F44, some [(.li (.it .u8))], []⟩,
  some ⟨F45, some [(.li (.it .u8)), (.li (.it .u8))], [(0, [0, 1, 5], [0, 1]), (1, [], [0, 1, 5]), (2, [], [])]⟩,
  some ⟨F46, none, [(0, [2, 3, 8, 9, 14, 15], []), (1, [], [2, 3, 8, 9, 14, 15])]⟩,
  some ⟨F47, none, []⟩,
  some ⟨F48, some [(.li (.it .u8)), (.it .u64), (.it .i64)], [(0, [1, 2, 7, 8, 9, 10], [9]), (1, [], [1, 2, 7, 8, 9, 10])]⟩,
  some ⟨F49, none, []⟩,
  some ⟨F50, some [(.li (.it .u8)), (.it .u64), (.it .i64)], []⟩,
  some ⟨F51, some [(.li (.it .u8))], []⟩,
  some ⟨F52, some [(.it .u64)], []⟩,
  some ⟨F53, some [(.it .u32)], []⟩,
  some ⟨F54, some [(.li (.it .u8)), (.li (.it .u8))], [(0, [0, 1, 5], [5]), (1, [], [0, 1, 5])]⟩,
  some ⟨F55, some [(.it .u64)], [(0, [0, 3], [0, 3]), (1, [], [0, 3])]⟩,
  some ⟨F56, some [(.li (.it .u8)), (.li (.it .u8))], [(0, [0, 1, 5], [5]), (1, [], [0, 1, 5])]⟩,
  some ⟨F57, some [(.it .u64)], [(0, [0, 3], [0, 3]), (1, [], [0, 3])]⟩,
  some ⟨F58, some [(.it .u64), (.it .i64)], [(0, [0, 1, 5, 6], [5]), (1, [], [0, 1, 5, 6])]⟩,
  some ⟨F59, some [(.li (.it .u8)), (.it .i64)], [(0, [0, 6, 12, 13], [6]), (1, [], [0, 6, 12, 13])]⟩,
  some ⟨F60, none, []⟩,
  some ⟨F61, none, []⟩,
  some ⟨F62, some [(.li (.it .u8)), (.it .i64)], [(0, [0, 1, 7, 8], [4, 5, 6]), (1, [], [0, 1, 7, 8])]⟩,
  some ⟨F63, some [(.li (.it .u8))], []⟩,
  some ⟨F64, some [(.li (.it .u8)), (.li (.it .u8))], [(0, [], [14]), (1, [], [6, 7, 8, 10, 11, 12]), (2, [], [7, 8, 11, 12]), (3, [], [8, 12])]⟩,
  some ⟨F65, some [(.li (.it .u8))], [(0, [3, 6, 7, 8], [3]), (1, [], [3, 6, 7, 8]), (2, [3, 6, 7, 8, 16], [3, 6, 7, 8]), (3, [], [3, 6, 7, 8, 16])]⟩,
  some ⟨F66, some [(.it .u32), (.it .i64)], []⟩,
  some ⟨F67, some [(.li (.it .u8))], [(0, [0, 3, 4], [3]), (1, [], [0, 3, 4]), (2, [0, 3, 4, 5], [0, 3, 4]), (3, [], [0, 3, 4, 5])]⟩,
  some ⟨F68, some [(.it .u64), (.it .i64)], [(0, [0, 5, 7, 8], [5]), (1, [], [0, 5, 7, 8])]⟩,
  some ⟨F69, some [(.li (.it .u8))], [(0, [5, 8, 9, 10], []), (1, [], [5, 8, 9, 10])]⟩,
  some ⟨F70, some [(.li (.it .u8)), (.li (.it .u8))], []⟩,
  some ⟨F71, some [(.it .u64), (.it .u64)], []⟩,
  some ⟨F72, some [(.it .i64), (.it .i64)], []⟩,
  none,
  some ⟨F74, some [(.it .u64)], []⟩,
  some ⟨F75, some [(.it .i64)], []⟩,
  none,
  none,
  none,
  none,
  none,
  none,
  none,
  none,
  none,
  none,
  none,
  none,
  none,
  none,
  none,
  none,
  none]
end Go.Proofs.Ytdhbelpejaobdaa.Ev
namespace Go.Proofs.Ytdhbelpejaobdaa.Ev
open Go
set_option maxRecDepth 100000
theorem fns_at : ∀ (g : FuncId) (x : FnRow), fnRows.getD g none = some x → Try.prog.funcs[g]? = some x.fn ∧ (x.fn.name == "runtime.NumGoroutine") = false ∧ x.fn.body.isNone = false
  | 0, x, h => by cases h
  | 1, x, h => by cases h
  | 2, x, h => by obtain rfl := Option.some.inj h; exact ⟨at2, by kernel_rfl, by kernel_rfl⟩
  | 3, x, h => by obtain rfl := Option.some.inj h; exact ⟨at3, by kernel_rfl, by kernel_rfl⟩
  | 4, x, h => by obtain rfl := Option.some.inj h; exact ⟨at4, by kernel_rfl, by kernel_rfl⟩
  | 5, x, h => by obtain rfl := Option.some.inj h; exact ⟨at5, by kernel_rfl, by kernel_rfl⟩
  | 6, x, h => by obtain rfl := Option.some.inj h; exact ⟨at6, by kernel_rfl, by kernel_rfl⟩
  | 7, x, h => by obtain rfl := Option.some.inj h; exact ⟨at7, by kernel_rfl, by kernel_rfl⟩
  | 8, x, h => by obtain rfl := Option.some.inj h; exact ⟨at8, by kernel_rfl, by kernel_rfl⟩
  | 9, x, h => by obtain rfl := Option.some.inj h; exact ⟨at9, by kernel_rfl, by kernel_rfl⟩
  | 10, x, h => by obtain rfl := Option.some.inj h; exact ⟨at10, by kernel_rfl, by kernel_rfl⟩
  | 11, x, h => by obtain rfl := Option.some.inj h; exact ⟨at11, by kernel_rfl, by kernel_rfl⟩
  | 12, x, h => by obtain rfl := Option.some.inj h; exact ⟨at12, by kernel_rfl, by kernel_rfl⟩
  | 13, x, h => by obtain rfl := Option.some.inj h; exact ⟨at13, by kernel_rfl, by kernel_rfl⟩
  | 14, x, h => by obtain rfl := Option.some.inj h; exact ⟨at14, by kernel_rfl, by kernel_rfl⟩
  | 15, x, h => by obtain rfl := Option.some.inj h; exact ⟨at15, by kernel_rfl, by kernel_rfl⟩
  | 16, x, h => by obtain rfl := Option.some.inj h; exact ⟨at16, by kernel_rfl, by kernel_rfl⟩
  | 17, x, h => by obtain rfl := Option.some.inj h; exact ⟨at17, by kernel_rfl, by kernel_rfl⟩
  | 18, x, h => by obtain rfl := Option.some.inj h; exact ⟨at18, by kernel_rfl, by kernel_rfl⟩
  | 19, x, h => by obtain rfl := Option.some.inj h; exact ⟨at19, by kernel_rfl, by kernel_rfl⟩
  | 20, x, h => by obtain rfl := Option.some.inj h; exact ⟨at20, by kernel_rfl, by kernel_rfl⟩
  | 21, x, h => by obtain rfl := Option.some.inj h; exact ⟨at21, by kernel_rfl, by kernel_rfl⟩
  | 22, x, h => by obtain rfl := Option.some.inj h; exact ⟨at22, by kernel_rfl, by kernel_rfl⟩
  | 23, x, h => by obtain rfl := Option.some.inj h; exact ⟨at23, by kernel_rfl, by kernel_rfl⟩
  | 24, x, h => by obtain rfl := Option.some.inj h; exact ⟨at24, by kernel_rfl, by kernel_rfl⟩
  | 25, x, h => by obtain rfl := Option.some.inj h; exact ⟨at25, by kernel_rfl, by kernel_rfl⟩
  | 26, x, h => by obtain rfl := Option.some.inj h; exact ⟨at26, by kernel_rfl, by kernel_rfl⟩
  | 27, x, h => by obtain rfl := Option.some.inj h; exact ⟨at27, by kernel_rfl, by kernel_rfl⟩
  | 28, x, h => by obtain rfl := Option.some.inj h; exact ⟨at28, by kernel_rfl, by kernel_rfl⟩
  | 29, x, h => by obtain rfl := Option.some.inj h; exact ⟨at29, by kernel_rfl, by kernel_rfl⟩
  | 30, x, h => by obtain rfl := Option.some.inj h; exact ⟨at30, by kernel_rfl, by kernel_rfl⟩
  | 31, x, h => by obtain rfl := Option.some.inj h; exact ⟨at31, by kernel_rfl, by kernel_rfl⟩
  | 32, x, h => by obtain rfl := Option.some.inj h; exact ⟨at32, by kernel_rfl, by kernel_rfl⟩
  | 33, x, h => by obtain rfl := Option.some.inj h; exact ⟨at33, by kernel_rfl, by kernel_rfl⟩
  | 34, x, h => by obtain rfl := Option.some.inj h; exact ⟨at34, by kernel_rfl, by kernel_rfl⟩
  | 35, x, h => by obtain rfl := Option.some.inj h; exact ⟨at35, by kernel_rfl, by kernel_rfl⟩
  | 36, x, h => by obtain rfl := Option.some.inj h; exact ⟨at36, by kernel_rfl, by kernel_rfl⟩
  | 37, x, h => by obtain rfl := Option.some.inj h; exact ⟨at37, by kernel_rfl, by kernel_rfl⟩
  | 38, x, h => by obtain rfl := Option.some.inj h; exact ⟨at38, by kernel_rfl, by kernel_rfl⟩
  | 39, x, h => by obtain rfl := Option.some.inj h; exact ⟨at39, by kernel_rfl, by kernel_rfl⟩
  | 40, x, h => by obtain rfl := Option.some.inj h; exact ⟨at40, by kernel_rfl, by kernel_rfl⟩
  | 41, x, h => by obtain rfl := Option.some.inj h; exact ⟨at41, by kernel_rfl, by kernel_rfl⟩
  | 42, x, h => by obtain rfl := Option.some.inj h; exact ⟨at42, by kernel_rfl, by kernel_rfl⟩
  | 43, x, h => by obtain rfl := Option.some.inj h; exact ⟨at43, by kernel_rfl, by kernel_rfl⟩
  | 44, x, h => by obtain rfl := Option.some.inj h; exact ⟨at44, by kernel_rfl, by kernel_rfl⟩
  | 45, x, h => by obtain rfl := Option.some.inj h; exact ⟨at45, by kernel_rfl, by kernel_rfl⟩
  | 46, x, h => by obtain rfl := Option.some.inj h; exact ⟨at46, by kernel_rfl, by kernel_rfl⟩
  | 47, x, h => by obtain rfl := Option.some.inj h; exact ⟨at47, by kernel_rfl, by kernel_rfl⟩
  | 48, x, h => by obtain rfl := Option.some.inj h; exact ⟨at48, by kernel_rfl, by kernel_rfl⟩
  | 49, x, h => by obtain rfl := Option.some.inj h; exact ⟨at49, by kernel_rfl, by kernel_rfl⟩
  | 50, x, h => by obtain rfl := Option.some.inj h; exact ⟨at50, by kernel_rfl, by kernel_rfl⟩
  | 51, x, h => by obtain rfl := Option.some.inj h; exact ⟨at51, by kernel_rfl, by kernel_rfl⟩
  | 52, x, h => by obtain rfl := Option.some.inj h; exact ⟨at52, by kernel_rfl, by kernel_rfl⟩
  | 53, x, h => by obtain rfl := Option.some.inj h; exact ⟨at53, by kernel_rfl, by kernel_rfl⟩
  | 54, x, h => by obtain rfl := Option.some.inj h; exact ⟨at54, by kernel_rfl, by kernel_rfl⟩
  | 55, x, h => by obtain rfl := Option.some.inj h; exact ⟨at55, by kernel_rfl, by kernel_rfl⟩
  | 56, x, h => by obtain rfl := Option.some.inj h; exact ⟨at56, by kernel_rfl, by kernel_rfl⟩
  | 57, x, h => by obtain rfl := Option.some.inj h; exact ⟨at57, by kernel_rfl, by kernel_rfl⟩
  | 58, x, h => by obtain rfl := Option.some.inj h; exact ⟨at58, by kernel_rfl, by kernel_rfl⟩
  | 59, x, h => by obtain rfl := Option.some.inj h; exact ⟨at59, by kernel_rfl, by kernel_rfl⟩
  | 60, x, h => by obtain rfl := Option.some.inj h; exact ⟨at60, by kernel_rfl, by kernel_rfl⟩
  | 61, x, h => by obtain rfl := Option.some.inj h; exact ⟨at61, by kernel_rfl, by kernel_rfl⟩
  | 62, x, h => by obtain rfl := Option.some.inj h; exact ⟨at62, by kernel_rfl, by kernel_rfl⟩
  | 63, x, h => by obtain rfl := Option.some.inj h; exact ⟨at63, by kernel_rfl, by kernel_rfl⟩
  | 64, x, h => by obtain rfl := Option.some.inj h; exact ⟨at64, by kernel_rfl, by kernel_rfl⟩
  | 65, x, h => by obtain rfl := Option.some.inj h; exact ⟨at65, by kernel_rfl, by kernel_rfl⟩
  | 66, x, h => by obtain rfl := Option.some.inj h; exact ⟨at66, by kernel_rfl, by kernel_rfl⟩
  | 67, x, h => by obtain rfl := Option.some.inj h; exact ⟨at67, by kernel_rfl, by kernel_rfl⟩
  | 68, x, h => by obtain rfl := Option.some.inj h; exact ⟨at68, by kernel_rfl, by kernel_rfl⟩
  | 69, x, h => by obtain rfl := Option.some.inj h; exact ⟨at69, by kernel_rfl, by kernel_rfl⟩
  | 70, x, h => by obtain rfl := Option.some.inj h; exact ⟨at70, by kernel_rfl, by kernel_rfl⟩
  | 71, x, h => by obtain rfl := Option.some.inj h; exact ⟨at71, by kernel_rfl, by kernel_rfl⟩
  | 72, x, h => by obtain rfl := Option.some.inj h; exact ⟨at72, by kernel_rfl, by kernel_rfl⟩
  | 73, x, h => by cases h
  | 74, x, h => by obtain rfl := Option.some.inj h; exact ⟨at74, by kernel_rfl, by kernel_rfl⟩
  | 75, x, h => by obtain rfl := Option.some.inj h; exact ⟨at75, by kernel_rfl, by kernel_rfl⟩
  | 76, x, h => by cases h
  | 77, x, h => by cases h
  | 78, x, h => by cases h
  | 79, x, h => by cases h
  | 80, x, h => by cases h
  | 81, x, h => by cases h
  | 82, x, h => by cases h
  | 83, x, h => by cases h
  | 84, x, h => by cases h
  | 85, x, h => by cases h
  | 86, x, h => by cases h
  | 87, x, h => by cases h
  | 88, x, h => by cases h
  | 89, x, h => by cases h
  | 90, x, h => by cases h
  | 91, x, h => by cases h
  | 92, x, h => by cases h
  | g + 93, x, h => by simp [fnRows] at h
end Go.Proofs.Ytdhbelpejaobdaa.Ev
