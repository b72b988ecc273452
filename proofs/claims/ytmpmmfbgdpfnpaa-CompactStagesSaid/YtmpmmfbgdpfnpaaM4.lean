/- Parts of the proof, joined by a program of this session: EvFns, EvAuto, EvMeth, EvCon, EvConM. -/
import Derived.Test.YtmpmmfbgdpfnpaaM2
import Derived.Test.YtmpmmfbgdpfnpaaM3
import Derived.Test.YtmpmmfbgdpfnpaaM1
set_option linter.unusedVariables false
set_option linter.unusedSimpArgs false
set_option linter.unusedSectionVars false
/- The seat's functions for the walker: the kinds of their parameters, where all are data; their live slots, block by block. Written by a program of this session. -/
namespace Go.Proofs.Ytmpmmfbgdpfnpaa.Ev
open Go
set_option maxRecDepth 100000
structure FnRow where
  fn : Func
  ts : Option (List Ty)
  live : List (Nat × List Nat × List Nat)
def lookL : List (Nat × List Nat × List Nat) → Nat → List Nat × List Nat
  | [], _ => ([], [])
  | (b, x) :: l, n => match Nat.beq b n with | true => x | false => lookL l n
noncomputable def fnRows : List (Option FnRow) := [
  none,
  none,
  some ⟨F2, some [], []⟩,
  some ⟨F3, some [(.li (.li (.co (.li (.it .u8)) (.co (.li (.it .u8)) .ue)))), (.it .u64), (.li (.co (.li (.it .u8)) (.co (.li (.it .u8)) .ue)))], []⟩,
  some ⟨F4, some [(.li (.li (.co (.li (.it .u8)) (.co (.li (.it .u8)) .ue)))), (.it .u64), (.li (.co (.li (.it .u8)) (.co (.li (.it .u8)) .ue))), (.li (.it .u8)), (.it .u64), (.li (.it .u8))], [(0, [3, 4, 5, 13, 15, 17, 18], [3, 4, 5, 13, 15, 17]), (1, [], [3, 4, 5, 13, 15, 17, 18])]⟩,
  some ⟨F5, some [(.li (.li (.co (.li (.it .u8)) (.co (.li (.it .u8)) .ue)))), (.it .u64), (.li (.co (.li (.it .u8)) (.co (.li (.it .u8)) .ue))), (.it .i64)], [(0, [0, 1, 2, 3, 9, 13, 14], [0, 1, 2, 3, 9, 13]), (1, [], [0, 1, 2, 3, 9, 13, 14]), (2, [0, 1, 2, 3, 9, 13, 14, 15], [0, 1, 2, 3, 9, 13, 14]), (3, [], [0, 1, 2, 3, 9, 13, 14, 15])]⟩,
  some ⟨F6, some [(.li (.li (.co (.li (.it .u8)) (.co (.li (.it .u8)) .ue)))), (.it .u64), (.li (.co (.li (.it .u8)) (.co (.li (.it .u8)) .ue))), (.it .i64)], [(0, [1, 2, 3, 9, 11, 13, 14], [1, 2, 3, 9]), (1, [], [1, 2, 3, 9, 11, 13, 14]), (2, [1, 2, 3, 9, 11, 13, 14], [1, 2, 3, 9, 11, 13, 14]), (3, [], [1, 2, 3, 9, 11, 13, 14]), (4, [9, 16, 17, 18], [9, 17]), (5, [], [9, 16, 17, 18])]⟩,
  some ⟨F7, some [(.li (.co (.li (.it .u8)) (.co (.li (.it .u8)) .ue))), (.it .i64), (.li (.it .u8)), (.it .u64)], [(0, [0, 2, 3, 9, 11, 13], [0, 2, 3]), (1, [], [0, 2, 3, 9, 11, 13])]⟩,
  some ⟨F8, some [(.co (.it .i64) (.co (.it .i64) (.co (.it .u64) (.co (.ar 5 (.li (.co (.it .i64) (.co (.it .i64) (.co (.li (.it .u8)) (.co (.li (.it .u8)) .ue)))))) .ue)))), (.co (.it .i64) (.co (.it .i64) (.co (.it .i64) .ue))), (.it .i64), (.li (.it .u8))], []⟩,
  some ⟨F9, some [], []⟩,
  some ⟨F10, some [(.li (.li (.co (.li (.it .u8)) (.co (.li (.it .u8)) .ue))))], [(0, [0, 3, 4], [0, 3]), (1, [], [0, 3, 4])]⟩,
  some ⟨F11, some [(.li (.li (.co (.li (.it .u8)) (.co (.li (.it .u8)) .ue)))), (.it .u64), (.li (.co (.li (.it .u8)) (.co (.li (.it .u8)) .ue)))], [(0, [0, 4, 5, 18, 19, 20], [0, 4, 5]), (1, [], [0, 4, 5, 18, 19, 20]), (2, [14, 15, 36, 37, 38], [15]), (3, [], [14, 15, 36, 37, 38])]⟩,
  some ⟨F12, some [(.li (.li (.co (.li (.it .u8)) (.co (.li (.it .u8)) .ue)))), (.it .u64), (.li (.co (.li (.it .u8)) (.co (.li (.it .u8)) .ue)))], [(0, [1, 2, 8, 10, 11], [10]), (1, [], [1, 2, 8, 10, 11])]⟩,
  some ⟨F13, some [(.li (.co (.li (.it .u8)) (.co (.li (.it .u8)) .ue))), (.li (.co (.li (.it .u8)) (.co (.li (.it .u8)) .ue)))], [(0, [0, 1, 5], []), (1, [], [0, 1, 5])]⟩,
  some ⟨F14, some [(.li (.li (.co (.li (.it .u8)) (.co (.li (.it .u8)) .ue))))], [(0, [0, 4, 5], [0, 4]), (1, [], [0, 4, 5]), (2, [0, 4, 6], [2, 3]), (3, [], [0, 4, 6]), (4, [0, 4, 6, 7, 8], [0, 4, 6, 7]), (5, [], [0, 4, 6, 7, 8])]⟩,
  some ⟨F15, some [(.li (.it .u8)), (.li (.co (.li (.it .u8)) (.co (.li (.it .u8)) .ue)))], [(0, [0, 1, 5], []), (1, [], [0, 1, 5])]⟩,
  some ⟨F16, some [(.li (.it .u8))], []⟩,
  some ⟨F17, some [(.li (.it .u8)), (.li (.it .u8))], [(0, [0, 1, 5], [0, 1]), (1, [], [0, 1, 5]), (2, [], [])]⟩,
  some ⟨F18, some [(.li (.it .u8)), (.it .u64), (.it .i64)], []⟩,
  some ⟨F19, some [(.li (.co (.li (.it .u8)) (.co (.li (.it .u8)) .ue))), (.li (.it .u8)), (.it .u64)], [(0, [0, 1, 2, 8], []), (1, [], [0, 1, 2, 8])]⟩,
  some ⟨F20, some [(.li (.it .u8)), (.li (.it .u8))], []⟩,
  some ⟨F21, some [(.li (.co (.li (.it .u8)) (.co (.li (.it .u8)) .ue)))], [(0, [0, 3], []), (1, [], [0, 3])]⟩,
  some ⟨F22, some [(.li (.co (.li (.it .u8)) (.co (.li (.it .u8)) .ue))), (.it .i64)], [(0, [0, 1, 6, 7, 16, 17, 18], [6]), (1, [], [0, 1, 6, 7, 16, 17, 18])]⟩,
  some ⟨F23, some [(.li (.co (.li (.it .u8)) (.co (.li (.it .u8)) .ue))), (.it .i64)], [(0, [0, 1, 6, 7, 8], [6]), (1, [], [0, 1, 6, 7, 8])]⟩,
  some ⟨F24, some [(.li (.co (.li (.it .u8)) (.co (.li (.it .u8)) .ue))), (.li (.it .u8)), (.it .u64)], [(0, [1, 2, 14, 15, 16], []), (1, [], [1, 2, 14, 15, 16])]⟩,
  some ⟨F25, some [(.co (.it .i64) (.co (.it .i64) (.co (.it .u64) (.co (.ar 5 (.li (.co (.it .i64) (.co (.it .i64) (.co (.li (.it .u8)) (.co (.li (.it .u8)) .ue)))))) .ue))))], [(0, [1, 3], []), (1, [], [1, 3])]⟩,
  some ⟨F26, some [(.co (.it .i64) (.co (.it .i64) (.co (.it .u64) (.co (.ar 5 (.li (.co (.it .i64) (.co (.it .i64) (.co (.li (.it .u8)) (.co (.li (.it .u8)) .ue)))))) .ue)))), (.co (.it .i64) (.co (.it .i64) (.co (.it .i64) .ue)))], [(0, [9, 10, 26, 27, 28], [9, 10]), (1, [], [9, 10, 26, 27, 28])]⟩,
  some ⟨F27, some [(.co (.it .i64) (.co (.it .i64) (.co (.it .u64) (.co (.ar 5 (.li (.co (.it .i64) (.co (.it .i64) (.co (.li (.it .u8)) (.co (.li (.it .u8)) .ue)))))) .ue)))), (.co (.it .i64) (.co (.it .i64) (.co (.it .i64) .ue)))], [(0, [2, 3, 8, 9, 10, 11, 12], [8]), (1, [], [2, 3, 8, 9, 10, 11, 12]), (2, [2, 3, 8, 9, 10, 11, 12, 13, 14, 15], [2, 3, 8, 9, 10, 11, 12, 13, 14]), (3, [], [2, 3, 8, 9, 10, 11, 12, 13, 14, 15])]⟩,
  some ⟨F28, some [(.co (.it .i64) (.co (.it .i64) (.co (.it .i64) .ue)))], []⟩,
  some ⟨F29, some [(.co (.it .i64) (.co (.it .i64) (.co (.it .i64) .ue)))], []⟩,
  some ⟨F30, some [(.co (.it .i64) (.co (.it .i64) (.co (.it .u64) (.co (.ar 5 (.li (.co (.it .i64) (.co (.it .i64) (.co (.li (.it .u8)) (.co (.li (.it .u8)) .ue)))))) .ue)))), (.it .i64), (.li (.it .u8))], [(0, [1, 2, 3, 6, 10, 11, 12, 50, 51, 52], [1, 3, 6, 10, 11, 12]), (1, [], [1, 2, 3, 6, 10, 11, 12, 50, 51, 52]), (2, [1, 3, 6, 11, 17, 18, 87, 88, 89], [1, 3, 6, 11, 17, 18]), (3, [], [1, 3, 6, 11, 17, 18, 87, 88, 89]), (4, [6, 11, 17, 18, 121, 122, 123], [6, 11]), (5, [], [6, 11, 17, 18, 121, 122, 123])]⟩,
  some ⟨F31, some [(.co (.it .i64) (.co (.it .i64) (.co (.it .u64) (.co (.ar 5 (.li (.co (.it .i64) (.co (.it .i64) (.co (.li (.it .u8)) (.co (.li (.it .u8)) .ue)))))) .ue)))), (.it .i64), (.li (.it .u8))], [(0, [1, 2, 3, 6, 10, 11, 12], [1, 3, 6, 10, 11, 12]), (1, [], [1, 2, 3, 6, 10, 11, 12]), (2, [1, 3, 6, 11, 13, 14, 15], [1, 3, 6, 11, 13, 14]), (3, [], [1, 3, 6, 11, 13, 14, 15]), (4, [6, 11, 13, 14, 16, 17], [6, 11]), (5, [], [6, 11, 13, 14, 16, 17])]⟩,
  some ⟨F32, some [(.li (.co (.it .i64) (.co (.it .i64) (.co (.li (.it .u8)) (.co (.li (.it .u8)) .ue))))), (.li (.co (.it .i64) (.co (.it .i64) (.co (.li (.it .u8)) (.co (.li (.it .u8)) .ue)))))], [(0, [0, 1, 5], []), (1, [], [0, 1, 5])]⟩,
  some ⟨F33, some [(.co (.it .i64) (.co (.it .i64) (.co (.it .u64) (.co (.ar 5 (.li (.co (.it .i64) (.co (.it .i64) (.co (.li (.it .u8)) (.co (.li (.it .u8)) .ue)))))) .ue)))), (.it .i64)], [(0, [7, 26, 27, 28], [7]), (1, [], [7, 26, 27, 28]), (2, [7, 26, 27, 28, 32, 33, 34], [7, 26, 27, 28]), (3, [], [7, 26, 27, 28, 32, 33, 34])]⟩,
  some ⟨F34, some [(.co (.it .i64) (.co (.it .i64) (.co (.it .u64) (.co (.ar 5 (.li (.co (.it .i64) (.co (.it .i64) (.co (.li (.it .u8)) (.co (.li (.it .u8)) .ue)))))) .ue)))), (.it .i64)], [(0, [2, 7, 8], [7]), (1, [], [2, 7, 8]), (2, [2, 7, 8, 9], [2, 7, 8]), (3, [], [2, 7, 8, 9])]⟩,
  some ⟨F35, some [(.li (.co (.li (.it .u8)) (.co (.li (.it .u8)) .ue))), (.li (.co (.li (.it .u8)) (.co (.li (.it .u8)) .ue)))], [(0, [0, 1, 5], []), (1, [], [0, 1, 5])]⟩,
  some ⟨F36, some [.st, (.it .u64), (.it .i64)], []⟩,
  some ⟨F37, some [(.li (.co (.li (.it .u8)) (.co (.li (.it .u8)) .ue)))], [(0, [0, 8, 9, 10], []), (1, [], [0, 8, 9, 10])]⟩,
  some ⟨F38, some [(.li (.li (.co (.li (.it .u8)) (.co (.li (.it .u8)) .ue))))], [(0, [4, 12, 13, 14], [4]), (1, [], [4, 12, 13, 14]), (2, [4, 7], [7]), (3, [], [4, 7]), (999999, [10], [])]⟩,
  some ⟨F39, none, []⟩,
  some ⟨F40, some [(.li (.it .u8))], []⟩,
  some ⟨F41, some [(.li (.it .u8)), (.li (.it .u8))], []⟩,
  some ⟨F42, some [(.li (.co (.li (.it .u8)) (.co (.li (.it .u8)) .ue))), (.li (.it .u8))], [(0, [1, 7, 8, 9], []), (1, [], [1, 7, 8, 9])]⟩,
  some ⟨F43, some [(.li (.it .u8))], []⟩,
  some ⟨F44, some [(.li (.it .u8)), (.li (.it .u8))], [(0, [], [])]⟩,
  some ⟨F45, some [(.li (.it .u8)), (.it .i64), (.it .i64)], [(0, [0, 1, 7, 8], [7]), (1, [], [0, 1, 7, 8])]⟩,
  some ⟨F46, some [(.it .u64), (.it .i64)], [(0, [0, 1, 5, 6], [5]), (1, [], [0, 1, 5, 6])]⟩,
  some ⟨F47, some [(.li (.it .u8))], []⟩,
  some ⟨F48, some [(.li (.it .u8))], []⟩,
  some ⟨F49, some [(.li (.it .u8))], []⟩,
  some ⟨F50, some [(.co (.it .i64) (.co (.it .i64) (.co (.it .u64) (.co (.ar 5 (.li (.co (.it .i64) (.co (.it .i64) (.co (.li (.it .u8)) (.co (.li (.it .u8)) .ue)))))) .ue))))], [(0, [1, 3, 4, 5, 6, 7, 23, 24], [1, 3, 4, 5, 6, 7]), (1, [], [1, 3, 4, 5, 6, 7, 23, 24]), (2, [1, 3, 4, 5, 6, 7, 23, 24, 27, 28, 29], [1, 3, 4, 5, 6, 7, 23, 24]), (3, [], [1, 3, 4, 5, 6, 7, 23, 24, 27, 28, 29]), (4, [3, 4, 5, 6, 7, 55, 56], [3, 4, 5, 6, 7]), (5, [], [3, 4, 5, 6, 7, 55, 56]), (6, [], [])]⟩,
  some ⟨F51, some [(.co (.it .i64) (.co (.it .i64) (.co (.it .u64) (.co (.ar 5 (.li (.co (.it .i64) (.co (.it .i64) (.co (.li (.it .u8)) (.co (.li (.it .u8)) .ue)))))) .ue)))), (.co (.it .i64) (.co (.it .i64) (.co (.it .i64) .ue)))], [(0, [3, 5, 6, 16, 17, 18], [5]), (1, [], [3, 5, 6, 16, 17, 18]), (2, [3, 5, 6, 9, 16, 17, 18, 37, 38, 39], [3, 5, 6, 9, 16, 17, 18]), (3, [], [3, 5, 6, 9, 16, 17, 18, 37, 38, 39])]⟩,
  some ⟨F52, some [(.co (.it .u64) (.co (.it .u64) .ue)), (.co (.it .u64) (.co (.it .u64) .ue))], []⟩,
  some ⟨F53, some [(.co (.it .i64) (.co (.it .i64) (.co (.it .u64) (.co (.ar 5 (.li (.co (.it .i64) (.co (.it .i64) (.co (.li (.it .u8)) (.co (.li (.it .u8)) .ue)))))) .ue))))], [(0, [1, 3, 4], [1, 3]), (1, [], [1, 3, 4]), (2, [1, 3, 5], [1, 3]), (3, [], [1, 3, 5]), (4, [1, 3, 6], [1, 3]), (5, [], [1, 3, 6]), (6, [1, 3, 6, 7], [1, 3, 6]), (7, [], [1, 3, 6, 7]), (8, [1, 3, 8], [1]), (9, [], [1, 3, 8]), (10, [1, 9], []), (11, [], [1, 9]), (12, [1, 9, 10, 11], [1, 9, 10]), (13, [], [1, 9, 10, 11]), (14, [1, 9, 10, 12], [1, 9]), (15, [], [1, 9, 10, 12]), (16, [1, 9, 10, 12, 13], [1, 9, 10, 12]), (17, [], [1, 9, 10, 12, 13])]⟩,
  some ⟨F54, some [(.it .u64), (.it .u64), (.it .u64), (.it .u64)], []⟩,
  some ⟨F55, some [(.it .i64), (.it .i64), (.it .i64)], []⟩,
  some ⟨F56, some [(.li (.it .u8)), (.li (.it .u8))], [(0, [], [14]), (1, [], [6, 7, 8, 10, 11, 12]), (2, [], [7, 8, 11, 12]), (3, [], [8, 12])]⟩,
  some ⟨F57, some [(.co (.it .i64) (.co (.it .i64) (.co (.li (.it .u8)) (.co (.li (.it .u8)) .ue))))], []⟩,
  some ⟨F58, some [(.li (.it .u8)), (.li (.it .u8))], []⟩,
  some ⟨F59, some [(.co (.it .i64) (.co (.it .i64) (.co (.li (.it .u8)) (.co (.li (.it .u8)) .ue)))), (.co (.it .i64) (.co (.it .i64) (.co (.li (.it .u8)) (.co (.li (.it .u8)) .ue))))], []⟩,
  some ⟨F60, some [(.li (.it .u8)), (.it .u64), (.it .i64)], []⟩,
  some ⟨F61, none, [(0, [0, 2, 3], []), (1, [], [0, 2, 3])]⟩,
  some ⟨F62, some [(.li (.li (.co (.li (.it .u8)) (.co (.li (.it .u8)) .ue))))], []⟩,
  some ⟨F63, none, []⟩,
  some ⟨F64, none, []⟩,
  some ⟨F65, some [(.li (.it .u8))], []⟩,
  some ⟨F66, some [(.li (.it .u8)), (.it .u64), (.it .i64)], []⟩,
  some ⟨F67, some [(.it .i64), (.it .i64), (.it .u64)], []⟩,
  some ⟨F68, some [(.co (.it .i64) (.co (.it .i64) (.co (.li (.it .u8)) (.co (.li (.it .u8)) .ue))))], []⟩,
  some ⟨F69, some [(.it .i64), (.li (.co (.it .i64) (.co (.it .i64) (.co (.li (.it .u8)) (.co (.li (.it .u8)) .ue)))))], [(0, [0, 1, 5], []), (1, [], [0, 1, 5])]⟩,
  some ⟨F70, some [(.it .u64), (.it .u64)], []⟩,
  some ⟨F71, some [(.it .i64)], []⟩,
  some ⟨F72, some [(.co (.it .i64) (.co (.it .i64) (.co (.li (.it .u8)) (.co (.li (.it .u8)) .ue))))], []⟩,
  some ⟨F73, some [(.co (.it .i64) (.co (.it .i64) (.co (.li (.it .u8)) (.co (.li (.it .u8)) .ue)))), (.co (.it .i64) (.co (.it .i64) (.co (.li (.it .u8)) (.co (.li (.it .u8)) .ue))))], []⟩,
  some ⟨F74, some [(.it .u64), (.it .u64)], []⟩,
  some ⟨F75, some [(.it .i64), (.it .i64)], []⟩,
  none,
  some ⟨F77, some [(.it .u64)], []⟩,
  some ⟨F78, none, [(0, [0, 1, 2, 7], [1, 7]), (1, [], [0, 1, 2, 7])]⟩,
  some ⟨F79, none, [(0, [0, 1], []), (1, [], [0, 1])]⟩,
  some ⟨F80, some [(.li (.it .u8)), (.it .i64)], [(0, [0, 6, 12, 13], [6]), (1, [], [0, 6, 12, 13])]⟩,
  some ⟨F81, some [(.it .i64)], []⟩,
  some ⟨F82, some [(.it .i64), (.co (.it .i64) (.co (.it .i64) (.co (.li (.it .u8)) (.co (.li (.it .u8)) .ue)))), (.co (.it .i64) (.co (.it .i64) (.co (.li (.it .u8)) (.co (.li (.it .u8)) .ue))))], []⟩,
  some ⟨F83, some [(.co (.it .i64) (.co (.it .i64) (.co (.li (.it .u8)) (.co (.li (.it .u8)) .ue)))), (.co (.it .i64) (.co (.it .i64) (.co (.li (.it .u8)) (.co (.li (.it .u8)) .ue))))], []⟩,
  some ⟨F84, some [(.li (.it .u8))], []⟩,
  some ⟨F85, some [(.it .u64)], []⟩,
  some ⟨F86, some [(.it .i64)], []⟩,
  some ⟨F87, some [(.it .u64), (.it .i64)], [(0, [0, 5, 7, 8], [5]), (1, [], [0, 5, 7, 8])]⟩,
  some ⟨F88, some [(.li (.it .u8))], []⟩,
  none,
  none,
  none,
  none,
  none,
  none,
  none,
  none,
  none,
  none,
  none,
  none,
  none,
  none,
  none,
  none,
  none,
  some ⟨F106, some [(.li (.li (.co (.li (.it .u8)) (.co (.li (.it .u8)) .ue)))), (.it .i64), (.it .i64)], []⟩,
  some ⟨F107, none, []⟩,
  some ⟨F108, none, []⟩,
  some ⟨F109, some [(.li (.li (.co (.li (.it .u8)) (.co (.li (.it .u8)) .ue)))), (.it .i64), (.it .i64)], []⟩,
  none]
end Go.Proofs.Ytmpmmfbgdpfnpaa.Ev
namespace Go.Proofs.Ytmpmmfbgdpfnpaa.Ev
open Go
set_option maxRecDepth 100000
theorem fns_at : ∀ (g : FuncId) (x : FnRow), fnRows.getD g none = some x → Try.prog.funcs[g]? = some x.fn ∧ (x.fn.name == "runtime.NumGoroutine") = false ∧ x.fn.body.isNone = false
  | 0, x, h => by cases h
  | 1, x, h => by cases h
  | 2, x, h => by obtain rfl := Option.some.inj h; exact ⟨at2, by kernel_rfl, by kernel_rfl⟩
  | 3, x, h => by obtain rfl := Option.some.inj h; exact ⟨at3, by kernel_rfl, by kernel_rfl⟩
  | 4, x, h => by obtain rfl := Option.some.inj h; exact ⟨at4, by kernel_rfl, by kernel_rfl⟩
  | 5, x, h => by obtain rfl := Option.some.inj h; exact ⟨at5, by kernel_rfl, by kernel_rfl⟩
  | 6, x, h => by obtain rfl := Option.some.inj h; exact ⟨at6, by kernel_rfl, by kernel_rfl⟩
  | 7, x, h => by obtain rfl := Option.some.inj h; exact ⟨at7, by kernel_rfl, by kernel_rfl⟩
  | 8, x, h => by obtain rfl := Option.some.inj h; exact ⟨at8, by kernel_rfl, by kernel_rfl⟩
  | 9, x, h => by obtain rfl := Option.some.inj h; exact ⟨at9, by kernel_rfl, by kernel_rfl⟩
  | 10, x, h => by obtain rfl := Option.some.inj h; exact ⟨at10, by kernel_rfl, by kernel_rfl⟩
  | 11, x, h => by obtain rfl := Option.some.inj h; exact ⟨at11, by kernel_rfl, by kernel_rfl⟩
  | 12, x, h => by obtain rfl := Option.some.inj h; exact ⟨at12, by kernel_rfl, by kernel_rfl⟩
  | 13, x, h => by obtain rfl := Option.some.inj h; exact ⟨at13, by kernel_rfl, by kernel_rfl⟩
  | 14, x, h => by obtain rfl := Option.some.inj h; exact ⟨at14, by kernel_rfl, by kernel_rfl⟩
  | 15, x, h => by obtain rfl := Option.some.inj h; exact ⟨at15, by kernel_rfl, by kernel_rfl⟩
  | 16, x, h => by obtain rfl := Option.some.inj h; exact ⟨at16, by kernel_rfl, by kernel_rfl⟩
  | 17, x, h => by obtain rfl := Option.some.inj h; exact ⟨at17, by kernel_rfl, by kernel_rfl⟩
  | 18, x, h => by obtain rfl := Option.some.inj h; exact ⟨at18, by kernel_rfl, by kernel_rfl⟩
  | 19, x, h => by obtain rfl := Option.some.inj h; exact ⟨at19, by kernel_rfl, by kernel_rfl⟩
  | 20, x, h => by obtain rfl := Option.some.inj h; exact ⟨at20, by kernel_rfl, by kernel_rfl⟩
  | 21, x, h => by obtain rfl := Option.some.inj h; exact ⟨at21, by kernel_rfl, by kernel_rfl⟩
  | 22, x, h => by obtain rfl := Option.some.inj h; exact ⟨at22, by kernel_rfl, by kernel_rfl⟩
  | 23, x, h => by obtain rfl := Option.some.inj h; exact ⟨at23, by kernel_rfl, by kernel_rfl⟩
  | 24, x, h => by obtain rfl := Option.some.inj h; exact ⟨at24, by kernel_rfl, by kernel_rfl⟩
  | 25, x, h => by obtain rfl := Option.some.inj h; exact ⟨at25, by kernel_rfl, by kernel_rfl⟩
  | 26, x, h => by obtain rfl := Option.some.inj h; exact ⟨at26, by kernel_rfl, by kernel_rfl⟩
  | 27, x, h => by obtain rfl := Option.some.inj h; exact ⟨at27, by kernel_rfl, by kernel_rfl⟩
  | 28, x, h => by obtain rfl := Option.some.inj h; exact ⟨at28, by kernel_rfl, by kernel_rfl⟩
  | 29, x, h => by obtain rfl := Option.some.inj h; exact ⟨at29, by kernel_rfl, by kernel_rfl⟩
  | 30, x, h => by obtain rfl := Option.some.inj h; exact ⟨at30, by kernel_rfl, by kernel_rfl⟩
  | 31, x, h => by obtain rfl := Option.some.inj h; exact ⟨at31, by kernel_rfl, by kernel_rfl⟩
  | 32, x, h => by obtain rfl := Option.some.inj h; exact ⟨at32, by kernel_rfl, by kernel_rfl⟩
  | 33, x, h => by obtain rfl := Option.some.inj h; exact ⟨at33, by kernel_rfl, by kernel_rfl⟩
  | 34, x, h => by obtain rfl := Option.some.inj h; exact ⟨at34, by kernel_rfl, by kernel_rfl⟩
  | 35, x, h => by obtain rfl := Option.some.inj h; exact ⟨at35, by kernel_rfl, by kernel_rfl⟩
  | 36, x, h => by obtain rfl := Option.some.inj h; exact ⟨at36, by kernel_rfl, by kernel_rfl⟩
  | 37, x, h => by obtain rfl := Option.some.inj h; exact ⟨at37, by kernel_rfl, by kernel_rfl⟩
  | 38, x, h => by obtain rfl := Option.some.inj h; exact ⟨at38, by kernel_rfl, by kernel_rfl⟩
  | 39, x, h => by obtain rfl := Option.some.inj h; exact ⟨at39, by kernel_rfl, by kernel_rfl⟩
  | 40, x, h => by obtain rfl := Option.some.inj h; exact ⟨at40, by kernel_rfl, by kernel_rfl⟩
  | 41, x, h => by obtain rfl := Option.some.inj h; exact ⟨at41, by kernel_rfl, by kernel_rfl⟩
  | 42, x, h => by obtain rfl := Option.some.inj h; exact ⟨at42, by kernel_rfl, by kernel_rfl⟩
  | 43, x, h => by obtain rfl := Option.some.inj h; exact ⟨at43, by kernel_rfl, by kernel_rfl⟩
  | 44, x, h => by obtain rfl := Option.some.inj h; exact ⟨at44, by kernel_rfl, by kernel_rfl⟩
  | 45, x, h => by obtain rfl := Option.some.inj h; exact ⟨at45, by kernel_rfl, by kernel_rfl⟩
  | 46, x, h => by obtain rfl := Option.some.inj h; exact ⟨at46, by kernel_rfl, by kernel_rfl⟩
  | 47, x, h => by obtain rfl := Option.some.inj h; exact ⟨at47, by kernel_rfl, by kernel_rfl⟩
  | 48, x, h => by obtain rfl := Option.some.inj h; exact ⟨at48, by kernel_rfl, by kernel_rfl⟩
  | 49, x, h => by obtain rfl := Option.some.inj h; exact ⟨at49, by kernel_rfl, by kernel_rfl⟩
  | 50, x, h => by obtain rfl := Option.some.inj h; exact ⟨at50, by kernel_rfl, by kernel_rfl⟩
  | 51, x, h => by obtain rfl := Option.some.inj h; exact ⟨at51, by kernel_rfl, by kernel_rfl⟩
  | 52, x, h => by obtain rfl := Option.some.inj h; exact ⟨at52, by kernel_rfl, by kernel_rfl⟩
  | 53, x, h => by obtain rfl := Option.some.inj h; exact ⟨at53, by kernel_rfl, by kernel_rfl⟩
  | 54, x, h => by obtain rfl := Option.some.inj h; exact ⟨at54, by kernel_rfl, by kernel_rfl⟩
  | 55, x, h => by obtain rfl := Option.some.inj h; exact ⟨at55, by kernel_rfl, by kernel_rfl⟩
  | 56, x, h => by obtain rfl := Option.some.inj h; exact ⟨at56, by kernel_rfl, by kernel_rfl⟩
  | 57, x, h => by obtain rfl := Option.some.inj h; exact ⟨at57, by kernel_rfl, by kernel_rfl⟩
  | 58, x, h => by obtain rfl := Option.some.inj h; exact ⟨at58, by kernel_rfl, by kernel_rfl⟩
  | 59, x, h => by obtain rfl := Option.some.inj h; exact ⟨at59, by kernel_rfl, by kernel_rfl⟩
  | 60, x, h => by obtain rfl := Option.some.inj h; exact ⟨at60, by kernel_rfl, by kernel_rfl⟩
  | 61, x, h => by obtain rfl := Option.some.inj h; exact ⟨at61, by kernel_rfl, by kernel_rfl⟩
  | 62, x, h => by obtain rfl := Option.some.inj h; exact ⟨at62, by kernel_rfl, by kernel_rfl⟩
  | 63, x, h => by obtain rfl := Option.some.inj h; exact ⟨at63, by kernel_rfl, by kernel_rfl⟩
  | 64, x, h => by obtain rfl := Option.some.inj h; exact ⟨at64, by kernel_rfl, by kernel_rfl⟩
  | 65, x, h => by obtain rfl := Option.some.inj h; exact ⟨at65, by kernel_rfl, by kernel_rfl⟩
  | 66, x, h => by obtain rfl := Option.some.inj h; exact ⟨at66, by kernel_rfl, by kernel_rfl⟩
  | 67, x, h => by obtain rfl := Option.some.inj h; exact ⟨at67, by kernel_rfl, by kernel_rfl⟩
  | 68, x, h => by obtain rfl := Option.some.inj h; exact ⟨at68, by kernel_rfl, by kernel_rfl⟩
  | 69, x, h => by obtain rfl := Option.some.inj h; exact ⟨at69, by kernel_rfl, by kernel_rfl⟩
  | 70, x, h => by obtain rfl := Option.some.inj h; exact ⟨at70, by kernel_rfl, by kernel_rfl⟩
  | 71, x, h => by obtain rfl := Option.some.inj h; exact ⟨at71, by kernel_rfl, by kernel_rfl⟩
  | 72, x, h => by obtain rfl := Option.some.inj h; exact ⟨at72, by kernel_rfl, by kernel_rfl⟩
  | 73, x, h => by obtain rfl := Option.some.inj h; exact ⟨at73, by kernel_rfl, by kernel_rfl⟩
  | 74, x, h => by obtain rfl := Option.some.inj h; exact ⟨at74, by kernel_rfl, by kernel_rfl⟩
  | 75, x, h => by obtain rfl := Option.some.inj h; exact ⟨at75, by kernel_rfl, by kernel_rfl⟩
  | 76, x, h => by cases h
  | 77, x, h => by obtain rfl := Option.some.inj h; exact ⟨at77, by kernel_rfl, by kernel_rfl⟩
  | 78, x, h => by obtain rfl := Option.some.inj h; exact ⟨at78, by kernel_rfl, by kernel_rfl⟩
  | 79, x, h => by obtain rfl := Option.some.inj h; exact ⟨at79, by kernel_rfl, by kernel_rfl⟩
  | 80, x, h => by obtain rfl := Option.some.inj h; exact ⟨at80, by kernel_rfl, by kernel_rfl⟩
  | 81, x, h => by obtain rfl := Option.some.inj h; exact ⟨at81, by kernel_rfl, by kernel_rfl⟩
  | 82, x, h => by obtain rfl := Option.some.inj h; exact ⟨at82, by kernel_rfl, by kernel_rfl⟩
  | 83, x, h => by obtain rfl := Option.some.inj h; exact ⟨at83, by kernel_rfl, by kernel_rfl⟩
  | 84, x, h => by obtain rfl := Option.some.inj h; exact ⟨at84, by kernel_rfl, by kernel_rfl⟩
  | 85, x, h => by obtain rfl := Option.some.inj h; exact ⟨at85, by kernel_rfl, by kernel_rfl⟩
  | 86, x, h => by obtain rfl := Option.some.inj h; exact ⟨at86, by kernel_rfl, by kernel_rfl⟩
  | 87, x, h => by obtain rfl := Option.some.inj h; exact ⟨at87, by kernel_rfl, by kernel_rfl⟩
  | 88, x, h => by obtain rfl := Option.some.inj h; exact ⟨at88, by kernel_rfl, by kernel_rfl⟩
  | 89, x, h => by cases h
  | 90, x, h => by cases h
  | 91, x, h => by cases h
  | 92, x, h => by cases h
  | 93, x, h => by cases h
  | 94, x, h => by cases h
  | 95, x, h => by cases h
  | 96, x, h => by cases h
  | 97, x, h => by cases h
  | 98, x, h => by cases h
  | 99, x, h => by cases h
  | 100, x, h => by cases h
  | 101, x, h => by cases h
  | 102, x, h => by cases h
  | 103, x, h => by cases h
  | 104, x, h => by cases h
  | 105, x, h => by cases h
  | 106, x, h => by obtain rfl := Option.some.inj h; exact ⟨at106, by kernel_rfl, by kernel_rfl⟩
  | 107, x, h => by obtain rfl := Option.some.inj h; exact ⟨at107, by kernel_rfl, by kernel_rfl⟩
  | 108, x, h => by obtain rfl := Option.some.inj h; exact ⟨at108, by kernel_rfl, by kernel_rfl⟩
  | 109, x, h => by obtain rfl := Option.some.inj h; exact ⟨at109, by kernel_rfl, by kernel_rfl⟩
  | 110, x, h => by cases h
  | g + 111, x, h => by simp [fnRows] at h
end Go.Proofs.Ytmpmmfbgdpfnpaa.Ev
/- Contracts that are the walker's own: for what is run on given data; and bytes.Clone's, by hand. -/
namespace Go.Proofs.Ytmpmmfbgdpfnpaa.Ev
open Go Go.RowKit
set_option linter.unusedVariables false
set_option linter.unusedSimpArgs false
set_option maxRecDepth 100000

noncomputable def fnOf (g : FuncId) : Option Func := (fnRows.getD g none).map (·.fn)
noncomputable def ctxOf (g : FuncId) : Ctx := ⟨rows, match fnRows.getD g none with | some x => lookL x.live | none => fun _ => ([], [])⟩
/-- all that may be called on data is called by contract; the rest is gone into -/
noncomputable def autoTab [tI : Tst] (t0 : Tab) (fuel : Nat) : Nat → Tab
  | 0 => t0
  | d + 1 => fun g => match t0 g with
    | some y => some y
    | none => match fnRows.getD g none with
      | some x => match x.ts with
        | some ts => some (ts, fun xs => (evFn (ctxOf g) (autoTab t0 fuel d) (inlH ctxOf (autoTab t0 fuel d) fuel fnOf d) fuel x.fn xs [] (fun v S => exportV S v)).map fun v => (true, v))
        | none => none
      | none => none

theorem fnsOK : FnsOK Try.prog fnOf := by
  intro g fn h
  simp only [fnOf, Option.map_eq_some_iff] at h
  obtain ⟨x, hx, rfl⟩ := h
  exact fns_at g x hx
theorem autoTab_far [tI : Tst] {t0 : Tab} (h0 : TabFar Try.prog t0) (fuel : Nat) : ∀ d, TabFar Try.prog (autoTab t0 fuel d)
  | 0 => h0
  | d + 1 => by
    have ih := autoTab_far h0 fuel d
    intro g ts F h
    simp only [autoTab] at h
    cases hy : t0 g with
    | some y =>
      rw [hy] at h
      simp only [Option.some.injEq] at h; subst h
      exact h0 g ts F hy
    | none =>
      rw [hy] at h
      simp only at h
      cases hx : fnRows.getD g none with
      | none => rw [hx] at h; simp at h
      | some x =>
        rw [hx] at h
        simp only at h
        obtain ⟨h1, h2, h3⟩ := fns_at g x hx
        cases ht : x.ts with
        | none => rw [ht] at h; simp at h
        | some ts' =>
          rw [ht] at h
          simp only [Option.some.injEq, Prod.mk.injEq] at h
          obtain ⟨rfl, rfl⟩ := h
          intro vs xs v _ hv
          refine .inl ⟨⟨x.fn, h1, h2, h3⟩, ?_⟩
          simp only [Option.map_eq_some_iff, Prod.mk.injEq, true_and, exists_eq_right] at hv
          exact far_fn (rows_ok _) (tabFar_ok ih) (inl_ok (fun _ => rows_ok _) (tabFar_ok ih) mixed fnsOK d) mixed fuel h1 hv

/-- so too, but for functions that are always gone into -/
noncomputable def autoTabX [tI : Tst] (no : FuncId → Bool) (t0 : Tab) (fuel : Nat) : Nat → Tab
  | 0 => t0
  | d + 1 => fun g => match no g with
  | true => none
  | false => match t0 g with
    | some y => some y
    | none => match fnRows.getD g none with
      | some x => match x.ts with
        | some ts => some (ts, fun xs => (evFn (ctxOf g) (autoTabX no t0 fuel d) (inlH ctxOf (autoTabX no t0 fuel d) fuel fnOf d) fuel x.fn xs [] (fun v S => exportV S v)).map fun v => (true, v))
        | none => none
      | none => none

theorem autoTabX_far [tI : Tst] {no : FuncId → Bool} {t0 : Tab} (h0 : TabFar Try.prog t0) (fuel : Nat) : ∀ d, TabFar Try.prog (autoTabX no t0 fuel d)
  | 0 => h0
  | d + 1 => by
    have ih := autoTabX_far (no := no) h0 fuel d
    intro g ts F h
    simp only [autoTabX] at h
    cases hno : no g with
    | true => rw [hno] at h; simp at h
    | false =>
    rw [hno] at h
    simp only at h
    cases hy : t0 g with
    | some y =>
      rw [hy] at h
      simp only [Option.some.injEq] at h; subst h
      exact h0 g ts F hy
    | none =>
      rw [hy] at h
      simp only at h
      cases hx : fnRows.getD g none with
      | none => rw [hx] at h; simp at h
      | some x =>
        rw [hx] at h
        simp only at h
        obtain ⟨h1, h2, h3⟩ := fns_at g x hx
        cases ht : x.ts with
        | none => rw [ht] at h; simp at h
        | some ts' =>
          rw [ht] at h
          simp only [Option.some.injEq, Prod.mk.injEq] at h
          obtain ⟨rfl, rfl⟩ := h
          intro vs xs v _ hv
          refine .inl ⟨⟨x.fn, h1, h2, h3⟩, ?_⟩
          simp only [Option.map_eq_some_iff, Prod.mk.injEq, true_and, exists_eq_right] at hv
          exact far_fn (rows_ok _) (tabFar_ok ih) (inl_ok (fun _ => rows_ok _) (tabFar_ok ih) mixed fnsOK d) mixed fuel h1 hv

end Go.Proofs.Ytmpmmfbgdpfnpaa.Ev
/- Methods by contract: a call on an object of the caller's own, whose cells are data, and on data. -/
namespace Go.Proofs.Ytmpmmfbgdpfnpaa.Ev
open Go Go.RowKit
set_option linter.unusedVariables false
set_option linter.unusedSimpArgs false

/-- what a method tells: its object's kind, those of its arguments; where, what becomes of the object, what is told -/
structure MEnt where
  T : Ty
  ts : List Ty
  F : T.den → List V → Option (Bool × T.den × V)
abbrev MTab := FuncId → Option MEnt

def importK {R : Type} (id : Nat) (S : List Ent) (v : V) (k : V → List Ent → Option R) : Option R :=
  match importV id v with
  | (v', some n) => setE S id (.fam n) fun S => k v' S
  | (v', none) => k v' S
def methH {R : Type} [tI : Tst] (M : MTab) (next : CallH R) : CallH R := fun g args id S k =>
  match M g with
  | none => next g args id S k
  | some e => match args with
    | .p o 0 :: rest => match ent S o with
      | .obj cs => match asT e.T (.agg cs) with
        | some x => match argsV e.ts rest with
          | some ys => match e.F x ys with
            | some (b, x', v) => br b (setE S o (.obj (flatT e.T x')) fun S => importK id S v k) none
            | none => none
          | none => none
        | none => none
      | _ => none
    | _ => none

/-- the world of a method: its object alone, that lies in a block which is lent -/
def Env.lend (m : Mem) (b : Nat) : Env := ⟨m, fun _ => b, fun _ => 0, fun _ => undef, fun _ => 0, fun _ => none, fun o => o = 0, m, fun k => k = b, fun _ _ => none⟩
def MRes [tI : Tst] (P : Program) (g : FuncId) (T : Ty) (x : T.den) (ys : List V) (x' : T.den) (v : V) : Prop :=
  ∀ (m : Mem) (w : World) (b : Nat) (us0 us : List Value) (ty : TypeId) (R : Ending → World → Prop), m.lies w → w.heap[b]? = some (.cells us0.toArray ty (0, 0)) → RepL m T x us0 → (∀ j, m b j = none) → RepVs (Env.of m) ys us →
    (∀ E' S' v' u w' cs, (Env.lend m b).Le E' → Sim w.heap.size w E' S' w' → ent S' 0 = .obj cs → asT T (.agg cs) = some x' → RepV E' v' u → exportV S' v' = some v → R (.returned u) w') →
    Calls P g (.pointer (some ⟨b, 0, none⟩) :: us).toArray w R
/-- what a walk of the method tells: the result, and the object's data -/
def exportM [tI : Tst] (T : Ty) (v : V) (S : List Ent) : Option (V × T.den) :=
  exportK S v fun v => match ent S 0 with
    | .obj cs => match asT T (.agg cs) with
      | some x => some (v, x)
      | none => none
    | _ => none

theorem repVs_env {E E2 : Env} (hm : E2.m = E.m) {ts : List Ty} {vs xs : List V} {us : List Value} (h : argsV ts vs = some xs) (hr : RepVs E vs us) [tI : Tst] : RepVs E2 xs us := (argsV_rep h hr).2 E2 hm

theorem meth_fn [tI : Tst] {P : Program} {C : Ctx} {tab : Tab} {T : Ty} {call : CallH (V × T.den)} (hC : RowsOK P C) (hT : TabOK P tab) (hcall : CallOK P call) (hm : P.follows .mixedOrders = true) (fuel : Nat) {f : FuncId} {fn : Func} (hf : P.funcs[f]? = some fn)
    {x x' : T.den} {ys : List V} {v : V} (hy : ∀ (E E2 : Env) us, E2.m = E.m → RepVs E ys us → RepVs E2 ys us)
    (h : evFn C tab call fuel fn (.p 0 0 :: ys) [.obj (flatT T x)] (exportM T) = some (v, x')) : MRes P f T x ys x' v := by
  obtain ⟨v', S', h1, h2⟩ := fn_ok hC hT hcall hm fuel hf h
  unfold exportM at h1
  obtain ⟨v1, e1, e2⟩ := exportK_exp h1
  have e3 := exportV_of e1
  have h3 := h2 (export_notBad e3)
  split at e2
  case h_2 => simp at e2
  rename_i cs hcs
  split at e2
  case h_2 => simp at e2
  rename_i z hz
  simp only [Option.some.injEq, Prod.mk.injEq] at e2
  obtain ⟨rfl, rfl⟩ := e2
  intro m w b us0 us ty R hl hb hx hn hr hR
  have hb' : b < w.heap.size := (Array.getElem?_eq_some_iff.1 hb).1
  have one := RepL.one _ _ _ hx
  refine h3.2 w.heap.size w (Env.lend m b) w (.pointer (some ⟨b, 0, none⟩) :: us) R ?_ ?_ ?_
  · refine ⟨⟨rfl, rfl, rfl, Nat.le_refl _, fun _ _ _ => rfl⟩, Nat.le_refl _, hl, ?_, ?_, ?_, fun _ _ _ => rfl, fun _ _ _ h => by simp [Env.lend] at h⟩
    · intro o
      cases o with
      | zero => exact ⟨rfl, .inr rfl, us0, ty, hb, flatT_rep T x us0 hx, one, hn⟩
      | succ o => simp [ent, EntOK]
    · intro o o' B hne ho ho'
      cases o with
      | zero => cases o' with
        | zero => exact hne rfl
        | succ o' => simp [ent, owns] at ho'
      | succ o => simp [ent, owns] at ho
    · intro o ho
      have : o = 0 := ho
      subst this
      simp
  · simp only [RepVs]
    exact ⟨by simp only [RepV]; exact ⟨rfl, rfl⟩, hy (Env.of m) _ us rfl hr⟩
  · intro E' u w' k1 k0 k2 k3
    exact hR E' S' v' u w' cs k1 k2 hcs hz k3 e3
/-- the contracts of methods hold -/
def MTabOK [tI : Tst] (P : Program) (M : MTab) : Prop :=
  ∀ g e, M g = some e → (∃ fn, P.funcs[g]? = some fn ∧ (fn.name == "runtime.NumGoroutine") = false ∧ fn.body.isNone = false) ∧ e.T.agg = true ∧ ∀ x vs ys x' v, argsV e.ts vs = some ys → e.F x ys = some (true, x', v) → MRes P g e.T x ys x' v
theorem asT_agg [tI : Tst] {E : Env} {T : Ty} (hT : T.agg = true) {cs : List V} {us : List Value} {x : T.den} (h : asT T (.agg cs) = some x) (hr : RepVs E cs us) : RepL E.m T x us := by
  simp only [asT, hT, if_true] at h
  split at h
  · rename_i y hy
    simp only [Option.some.injEq] at h; subst h
    obtain ⟨u1, u2, rfl, h1, h2⟩ := unflat_rep _ _ _ _ _ hy hr
    cases u2 with
    | nil => simpa using h1
    | cons u u2 => simp [RepVs] at h2
  · simp at h
theorem meth_ok {R : Type} [tI : Tst] {P : Program} {M : MTab} {next : CallH R} (hM : MTabOK P M) (hnext : CallOK P next) : CallOK P (methH M next) := by
  intro g args id S k r h
  unfold methH at h
  cases hg : M g with
  | none => rw [hg] at h; exact hnext g args id S k r h
  | some e =>
    rw [hg] at h
    simp only at h
    obtain ⟨⟨fn, hfn, hn, hbd⟩, hagg, hres⟩ := hM g e hg
    split at h
    case h_2 => simp at h
    rename_i o rest
    split at h
    case h_2 => simp at h
    rename_i cs hcs
    split at h
    case h_2 => simp at h
    rename_i x hx
    split at h
    case h_2 => simp at h
    rename_i ys hys
    split at h
    case h_2 => simp at h
    rename_i b x' v hF
    cases b with
    | false => simp [br] at h
    | true =>
    simp only [br] at h
    rw [setE_eq] at h
    have hfar := hres x rest ys x' v hys hF
    have hrun : ∀ (us : List Value) (w : World), (callFunc g us.toArray).run P w = .ok (.enter g us.toArray) w := by
      intro us w
      have hn' : fn.name ≠ "runtime.NumGoroutine" := by simpa using hn
      have hb' : fn.body ≠ none := by intro e; rw [e] at hbd; simp at hbd
      simp [callFunc, hfn, hn', hb']
    -- what the machine's call comes to, whatever is told
    have main : ∀ (base : Nat) (w0 : World) (E : Env) (w : World) (us : List Value) (Q : Value → World → Prop), Sim base w0 E S w → RepVs E (.p o 0 :: rest) us →
        (∀ (E' : Env) (S' : List Ent) (v' : V) (u : Value) (w' : World) (us1 : List Value) (ty1 : TypeId), E.live o → o < S.length → E.m.le E'.m → w'.heap[E.blk o]? = some (.cells us1.toArray ty1 (0, 0)) → (∀ u ∈ us1, u.oneCell' = true) → RepL E'.m e.T x' us1 → (∀ j, E'.m (E.blk o) j = none) →
          BelowX E.lent base w w' → (∀ i B, i ≠ o → owns E i (ent S i) = some B → B < w.heap.size ∧ w'.heap[B]? = w.heap[B]? ∧ ∀ j, E'.m B j = E.m B j) → (∀ b, b < w.heap.size → ∀ j, E'.m b j = E.m b j) → E.blk o < w.heap.size → (base ≤ E.blk o ∨ E.lent (E.blk o)) →
          Sim w.heap.size w E' S' w' → RepV E' v' u → exportV S' v' = some v → Q u w') → Called P g us.toArray w Q := by
      intro base w0 E w us Q sim hargs hQ
      cases us with
      | nil => simp [RepVs] at hargs
      | cons u0 us =>
      simp only [RepVs] at hargs
      obtain ⟨hu0, hrest⟩ := hargs
      simp only [RepV] at hu0
      obtain ⟨hlive, rfl⟩ := hu0
      have he := sim.ents o
      rw [hcs] at he
      obtain ⟨_, hbase, us0, ty, hb, hr, hone, hnone⟩ := he
      have hb' : E.blk o < w.heap.size := (Array.getElem?_eq_some_iff.1 hb).1
      unfold Called
      rw [hrun]
      refine hfar E.m w (E.blk o) us0 us ty _ sim.mem hb (asT_agg hagg hx hr) hnone ((argsV_rep hys hrest).2 _ rfl) ?_
      intro E' S' v' u w' cs' k1 k2 k3 k4 k5 k6
      refine ⟨u, rfl, ?_⟩
      have kb : BelowX (fun k => k = E.blk o) w.heap.size w w' := by have := k2.below; rw [k1.lent] at this; exact this
      have hold : ∀ b, b < w.heap.size → ∀ j, E'.m b j = E.m b j := fun b hb j => by rw [k2.old b hb j, k1.m0]; rfl
      have he' := k2.ents 0
      rw [k3] at he'
      obtain ⟨l1, _, us1, ty1, hb1, hr1, one1, hn1⟩ := he'
      have hblk0 : E'.blk 0 = E.blk o := k1.blk 0 rfl
      rw [hblk0] at hb1 hn1
      refine hQ E' S' v' u w' us1 ty1 hlive (sim.lt o hlive) k1.m hb1 one1 (asT_agg hagg k4 hr1) hn1 ?_ ?_ hold hb' hbase k2 k5 k6
      · refine ⟨kb.os, kb.tape, kb.output, kb.size, fun k hk hx => kb.block k (Nat.lt_of_lt_of_le hk sim.base_le) ?_⟩
        rintro rfl
        exact hbase.elim (fun h => by omega) hx
      · intro i B hi hB
        have hne : B ≠ E.blk o := by
          rintro rfl
          exact sim.apart i o _ hi hB (by rw [hcs]; rfl)
        have := (owns_lt sim hB).2
        exact ⟨this, kb.block B this hne, hold B this⟩
    unfold importK at h
    split at h
    · rename_i v1 n himp
      rw [setE_eq] at h
      refine ⟨v1, _, h, by simp, ?_⟩
      intro base w0 E w us sim hargs hid
      refine main base w0 E w us _ sim hargs ?_
      intro E' S' v' u w' us1 ty1 hlive hlt hmle hb1 one1 hx1 hn1 hbel hblk hold hb' hbase k2 k5 k6
      have hoid : o ≠ id := by rintro rfl; exact hid.1 hlive
      rcases import_rep (E := E) id k6 k5 with ⟨hi, _⟩ | ⟨o2, n2, ho2, hi, hr'⟩
      · rw [himp] at hi; simp at hi
      · rw [himp] at hi hr'
        simp only [Option.some.injEq] at hi
        subst hi
        have hle : E.Le (E.imp E' id o2) := (Env.le_setM hmle).trans (Env.le_add (E := E.setM E'.m) hid.1 _ _ _ _ _)
        refine ⟨E.imp E' id o2, hle, ?_, hr', fun i l => l.elim (fun h => .inr (.inl h)) (fun h => .inl h)⟩
        have he2 := k2.ents o2
        obtain ⟨f1, f2, f3⟩ : E'.live o2 ∧ n = E'.len o2 ∧ FamOK E' w.heap.size w' o2 := by
          rcases ho2 with ho2 | ho2
          · rw [ho2] at he2; exact he2
          · rw [ho2] at he2; exact he2.1
        have fin : ent ((S.set o (.obj (flatT e.T x'))).set id (.fam n)) id = .fam n := ent_set_same _ (by simpa using hid.2)
        have fino : ent ((S.set o (.obj (flatT e.T x'))).set id (.fam n)) o = .obj (flatT e.T x') := by rw [ent_set_ne _ hoid]; exact ent_set_same _ hlt
        have himpo : (E.imp E' id o2).blk o = E.blk o := if_neg (h := instDecidableEqNat o id) hoid
        refine sim.step hle hbel (fun i => i = o ∨ i = id) ?_ (fun i B hi hB => (hblk i B (fun h => hi (.inl h)) hB).2) k2.mem ?_ ?_ ?_ ?_ (fun b hb j => hold b (Nat.lt_of_lt_of_le hb sim.base_le) j)
        · intro i hi
          have h1 : i ≠ o := fun h => hi (.inl h)
          have h2 : i ≠ id := fun h => hi (.inr h)
          exact ⟨by rw [ent_set_ne _ h2, ent_set_ne _ h1], fun _ => ⟨if_neg (h := instDecidableEqNat i id) h2, if_neg (h := instDecidableEqNat i id) h2⟩⟩
        · rintro i (rfl | rfl)
          · rw [fino]
            refine ⟨.inr hlive, by rw [himpo, hle.lent]; exact hbase, us1, ty1, by rw [himpo]; exact hb1, flatT_rep _ _ _ hx1, one1, fun j => by rw [himpo]; exact hn1 j⟩
          · rw [fin]
            refine ⟨.inl rfl, by simp [Env.imp, Env.add, f2], ?_⟩
            unfold FamOK at f3 ⊢
            simp only [Env.imp, Env.add, Env.setM, if_true]
            cases hx : E'.ex o2 with
            | none => rw [hx] at f3; exact f3
            | some g =>
              rw [hx] at f3
              obtain ⟨cap, cur, e, q1, q2, q3⟩ := f3
              exact ⟨cap, cur, e, q1, Nat.le_trans sim.base_le q2, q3⟩
        · rintro i B (rfl | rfl) hB i' hi' hB'
          · rw [fino] at hB
            simp only [owns, himpo, Option.some.injEq] at hB
            subst hB
            exact sim.apart i' i _ (fun h => hi' (.inl h)) hB' (by rw [hcs]; rfl)
          · rw [fin] at hB
            simp only [owns, Env.imp, Env.add, if_true] at hB
            unfold FamOK at f3
            rw [hB] at f3
            obtain ⟨cap, cur, e, q1, q2, q3⟩ := f3
            have := (owns_lt sim hB').2
            omega
        · have key : ∀ B, owns (E.imp E' id o2) id (.fam n) = some B → B ≠ E.blk o := by
            intro B hB
            simp only [owns, Env.imp, Env.add, if_true] at hB
            unfold FamOK at f3
            rw [hB] at f3
            obtain ⟨cap, cur, e, q1, q2, q3⟩ := f3
            omega
          rintro i i' B (rfl | rfl) (rfl | rfl) hne h1 h2
          · exact hne rfl
          · rw [fino] at h1; rw [fin] at h2
            simp only [owns, himpo, Option.some.injEq] at h1
            exact key B h2 h1.symm
          · rw [fin] at h1; rw [fino] at h2
            simp only [owns, himpo, Option.some.injEq] at h2
            exact key B h1 h2.symm
          · exact hne rfl
        · rintro i (rfl | l)
          · simpa using hid.2
          · simpa using sim.lt _ l
    · rename_i v1 himp
      refine ⟨v1, _, h, by simp, ?_⟩
      intro base w0 E w us sim hargs hid
      refine main base w0 E w us _ sim hargs ?_
      intro E' S' v' u w' us1 ty1 hlive hlt hmle hb1 one1 hx1 hn1 hbel hblk hold hb' hbase k2 k5 k6
      rcases import_rep (E := E) id k6 k5 with ⟨hi, hr'⟩ | ⟨o2, n2, ho2, hi, _⟩
      · rw [himp] at hr'
        refine ⟨E.setM E'.m, Env.le_setM hmle, ?_, hr' _ rfl, fun _ l => .inl l⟩
        have fino : ent (S.set o (.obj (flatT e.T x'))) o = .obj (flatT e.T x') := ent_set_same _ hlt
        refine sim.step (Env.le_setM hmle) hbel (fun i => i = o) ?_ (fun i B hi hB => (hblk i B hi hB).2) k2.mem ?_ ?_ ?_ ?_ (fun b hb j => hold b (Nat.lt_of_lt_of_le hb sim.base_le) j)
        · intro i hi
          exact ⟨ent_set_ne _ hi, fun _ => ⟨rfl, rfl⟩⟩
        · rintro i rfl
          rw [fino]
          exact ⟨hlive, hbase, us1, ty1, hb1, flatT_rep _ _ _ hx1, one1, hn1⟩
        · rintro i B rfl hB i' hi' hB'
          rw [fino] at hB
          simp only [owns, Option.some.injEq] at hB
          subst hB
          exact sim.apart i' i _ hi' hB' (by rw [hcs]; rfl)
        · rintro i i' B rfl rfl hne; exact absurd rfl hne
        · intro i l
          simpa using sim.lt _ l
      · rw [himp] at hi; simp at hi
end Go.Proofs.Ytmpmmfbgdpfnpaa.Ev
/- Contracts on data of given kinds: what is told of the arguments, where they are such; functions that the machine answers itself. -/
namespace Go.Proofs.Ytmpmmfbgdpfnpaa.Ev
open Go Go.RowKit
set_option linter.unusedVariables false
set_option linter.unusedSimpArgs false
set_option maxRecDepth 100000

theorem dec_ex (p : Prop) [Decidable p] : Nonempty {b : Bool // b = decide p} := ⟨⟨_, rfl⟩⟩
/-- a test that nothing goes into, the kernel neither -/
@[irreducible] noncomputable def tstS (p : Prop) [Decidable p] : Bool := (Classical.choice (dec_ex p)).1
noncomputable instance slowT : Tst := ⟨tstS, fun p _ => by unfold tstS; exact (Classical.choice (dec_ex p)).2⟩
@[reducible] def fastT : Tst := ⟨fun p _ => decide p, fun _ _ => rfl⟩
abbrev by8 : Ty := .it .u8
@[reducible] def dens : List Ty → Type
  | [] => Unit
  | t :: ts => t.den × dens ts
def ofDens : (ts : List Ty) → dens ts → List V
  | [], _ => []
  | t :: ts, x => .d t x.1 :: ofDens ts x.2
def toDens {R : Type} : (ts : List Ty) → List V → (dens ts → Option R) → Option R
  | [], [], k => k ()
  | t :: ts, .d s x :: vs, k => match cast? s t x with
    | some y => toDens ts vs fun ys => k (y, ys)
    | none => none
  | _, _, _ => none
def FitsD : (ts : List Ty) → dens ts → Prop
  | [], _ => True
  | t :: ts, x => Fits t x.1 ∧ FitsD ts x.2
/-- what a function tells: of which kinds of data, where, and what -/
structure Sp where
  ts : List Ty
  pre : dens ts → Bool
  res : dens ts → V
def Sp.F (s : Sp) (xs : List V) : Option (Bool × V) := toDens s.ts xs fun x => some (s.pre x, s.res x)
abbrev Sp.ent (s : Sp) : Option (List Ty × (List V → Option (Bool × V))) := some (s.ts, s.F)
noncomputable abbrev inl {R : Type} (T : Tab) (F d : Nat) : CallH R := inlH ctxOf T F fnOf d
def Sp.Ok (s : Sp) (T : Tab) (C : Ctx) (fn : Func) : Prop :=
  ∀ x : dens s.ts, FitsD s.ts x → s.pre x = true → ∃ F d, evFn C T (inl T F d) F fn (ofDens s.ts x) [] (fun v S => exportF C fn.resultTypes.toList v S) = some (s.res x)

theorem toDens_some {R : Type} : ∀ {ts : List Ty} {xs : List V} {k : dens ts → Option R} {v : R}, toDens ts xs k = some v → ∃ x, xs = ofDens ts x ∧ k x = some v
  | [], [], k, v, h => ⟨(), rfl, h⟩
  | t :: ts, .d s x :: vs, k, v, h => by
    rw [toDens] at h
    split at h
    · rename_i y hy
      obtain ⟨ys, rfl, h2⟩ := toDens_some h
      unfold cast? at hy
      split at hy
      · rename_i he; subst he
        simp only [Option.some.injEq] at hy
        subst hy
        exact ⟨(x, ys), rfl, h2⟩
      · simp at hy
    · simp at h
  | [], _ :: _, _, _, h => by simp [toDens] at h
  | _ :: _, [], _, _, h => by simp [toDens] at h
  | _ :: _, .bad :: _, _, _, h => by simp [toDens] at h
  | _ :: _, .un :: _, _, _, h => by simp [toDens] at h
  | _ :: _, .nils :: _, _, _, h => by simp [toDens] at h
  | _ :: _, .own .. :: _, _, _, h => by simp [toDens] at h
  | _ :: _, .p .. :: _, _, _, h => by simp [toDens] at h
  | _ :: _, .ro .. :: _, _, _, h => by simp [toDens] at h
  | _ :: _, .sr .. :: _, _, _, h => by simp [toDens] at h
  | _ :: _, .pr .. :: _, _, _, h => by simp [toDens] at h
  | _ :: _, .agg .. :: _, _, _, h => by simp [toDens] at h
  | _ :: _, .tup .. :: _, _, _, h => by simp [toDens] at h
  | _ :: _, .fn .. :: _, _, _, h => by simp [toDens] at h
  | _ :: _, .nn .. :: _, _, _, h => by simp [toDens] at h
  | _ :: _, .mp .. :: _, _, _, h => by simp [toDens] at h
  | _ :: _, .ifc .. :: _, _, _, h => by simp [toDens] at h
theorem fitsD_of : ∀ {ts : List Ty} {x : dens ts}, FitsV (ofDens ts x) → FitsD ts x
  | [], _, _ => trivial
  | t :: ts, x, h => ⟨h.1, fitsD_of h.2⟩
/-- a contract more -/
theorem add_ok {T : Tab} {g : FuncId} {C : Ctx} {fn : Func} (s : Sp) (hT : TabFar Try.prog T) (hC : RowsOK Try.prog C) (hf : Try.prog.funcs[g]? = some fn) (hn : (fn.name == "runtime.NumGoroutine") = false) (hb : fn.body.isNone = false)
    (h : s.Ok T C fn) : TabFar Try.prog (tabAdd T g s.ts s.F) := by
  intro i ts' F' hi
  unfold tabAdd at hi
  split at hi
  · rename_i he
    obtain rfl := Nat.eq_of_beq_eq_true he
    simp only [Option.some.injEq, Prod.mk.injEq] at hi
    obtain ⟨rfl, rfl⟩ := hi
    intro vs xs v h1 h2
    refine .inl ⟨⟨fn, hf, hn, hb⟩, ?_⟩
    intro m w us R hl hr hR
    obtain ⟨x, rfl, h3⟩ := toDens_some h2
    obtain ⟨h4, rfl⟩ := Prod.mk.inj (Option.some.inj h3)
    obtain ⟨F, d, h5⟩ := h x (fitsD_of (argsV_fits h1 hr)) h4
    exact far_fnF hC (tabFar_ok hT) (inl_ok (fun _ => rows_ok _) (tabFar_ok hT) mixed fnsOK d) mixed F hf h5 m w us R hl hr hR
  · exact hT i ts' F' hi
/-- what is handed out, all of it as data -/
def exportW1 : V → (V → Option V) → Option V
  | .d t x, k => k (.d t x)
  | .own _ t xs, k => k (.d (.li t) xs)
  | .un, k => k .un
  | _, _ => none
def exportWs : List V → (List V → Option V) → Option V
  | [], k => k []
  | v :: vs, k => exportW1 v fun v => exportWs vs fun vs => k (v :: vs)
def exportW : V → Option V
  | .tup vs => exportWs vs fun vs => some (.tup vs)
  | v => exportW1 v some
theorem exportW1_rep {v r : V} {k : V → Option V} (h : exportW1 v k = some r) : ∃ v', k v' = some r ∧ (∀ S (j : V → Option V), exportV1 S v' j = j v') ∧ (∀ E u, RepV E v u → RepV E v' u) ∧ (∀ vs, v' ≠ .tup vs) := by
  cases v with
  | d t x => exact ⟨_, h, fun _ _ => rfl, fun _ _ h => h, fun _ => by simp⟩
  | own o t xs => exact ⟨_, h, fun _ _ => rfl, fun _ _ h => by simp only [RepV] at h ⊢; exact h.1, fun _ => by simp⟩
  | un => exact ⟨_, h, fun _ _ => rfl, fun _ _ h => h, fun _ => by simp⟩
  | _ => simp [exportW1] at h
theorem exportWs_rep : ∀ {vs : List V} {r : V} {k : List V → Option V}, exportWs vs k = some r → ∃ vs', k vs' = some r ∧ (∀ S (j : List V → Option V), exportVs S vs' j = j vs') ∧ ∀ E us, RepVs E vs us → RepVs E vs' us
  | [], _, _, h => ⟨[], h, fun _ _ => rfl, fun _ _ h => h⟩
  | v :: vs, r, k, h => by
    rw [exportWs] at h
    obtain ⟨v', h1, h2, h3, _⟩ := exportW1_rep h
    obtain ⟨vs', k1, k2, k3⟩ := exportWs_rep h1
    refine ⟨v' :: vs', k1, fun S j => by rw [exportVs, h2, k2], ?_⟩
    intro E us hr
    cases us with
    | nil => simp [RepVs] at hr
    | cons u us => simp only [RepVs] at hr ⊢; exact ⟨h3 E u hr.1, k3 E us hr.2⟩
theorem exportWs_notBad : ∀ {vs : List V} {r : V} {k : List V → Option V}, exportWs vs k = some r → vs.all (fun v => match v with | .bad => false | _ => true) = true
  | [], _, _, _ => rfl
  | v :: vs, r, k, h => by
    rw [exportWs] at h
    rw [List.all_cons]
    cases v with
    | d t x => exact exportWs_notBad (vs := vs) h
    | own o t xs => exact exportWs_notBad (vs := vs) h
    | un => exact exportWs_notBad (vs := vs) h
    | _ => simp [exportW1] at h
theorem exportW_rep {v r : V} (h : exportW v = some r) : notBad v = true ∧ (∀ S, exportV S r = some r) ∧ ∀ E u, RepV E v u → RepV E r u := by
  unfold exportW at h
  split at h
  · rename_i vs
    obtain ⟨vs', k1, k2, k3⟩ := exportWs_rep h
    simp only [Option.some.injEq] at k1
    subst k1
    refine ⟨?_, fun S => by simp only [exportV, exportK, k2], fun E u hr => ?_⟩
    · exact exportWs_notBad h
    · simp only [RepV] at hr ⊢
      obtain ⟨us, h1, h2⟩ := hr
      exact ⟨us, h1, k3 E us h2⟩
  · rename_i hn
    obtain ⟨v', h1, h2, h3, h4⟩ := exportW1_rep h
    simp only [Option.some.injEq] at h1
    subst h1
    refine ⟨?_, fun S => ?_, h3⟩
    · cases v <;> first | rfl | simp [exportW1] at h
    · have := h2 S some
      unfold exportV exportK
      split
      · rename_i vs; exact absurd rfl (h4 vs)
      · exact this
/-- so too where rows that may be written to are among it -/
noncomputable def exportFW (C : Ctx) (ts : List TypeId) (v : V) (S : List Ent) : Option V :=
  match rowR v with
  | false => exportW v
  | true => match v with
    | .tup vs => frzA S vs fun vs S => exportW (.tup (dataVs C ts vs))
    | v => frzV S v fun v S => exportW (dataV C (ts.headD 0) v)
theorem exportFW_rep {C : Ctx} {ts : List TypeId} {v r : V} {S : List Ent} (h : exportFW C ts v S = some r) : notBad v = true ∧ (∀ S, exportV S r = some r) ∧ ∀ (base : Nat) (w0 : World) (E : Env) (w : World) (u : Value), Sim base w0 E S w → RepV E v u →
    ∃ E' S', E.Le E' ∧ Sim base w0 E' S' w ∧ RepV E' r u := by
  unfold exportFW at h
  split at h
  · obtain ⟨e1, e2, e3⟩ := exportW_rep h
    exact ⟨e1, e2, fun base w0 E w u sim hr => ⟨E, S, Env.Le.refl E, sim, e3 E u hr⟩⟩
  · split at h
    · rename_i vs _
      obtain ⟨vs', S', h1, h2, h3⟩ := nb_frzA h
      obtain ⟨e1, e2, e3⟩ := exportW_rep h1
      refine ⟨h3 (nb_dataVs (C := C) (ts := ts) e1), e2, ?_⟩
      intro base w0 E w u sim hr
      simp only [RepV] at hr
      obtain ⟨us, rfl, hr⟩ := hr
      obtain ⟨E', k1, k2, k3, k4⟩ := h2.2 base w0 E w us sim hr
      exact ⟨E', S', k1, k2, e3 E' _ (by simp only [RepV]; exact ⟨us, rfl, dataVs_rep k3⟩)⟩
    · rename_i hnt
      obtain ⟨v', S', h1, h2, h3⟩ := nb_frz h
      obtain ⟨e1, e2, e3⟩ := exportW_rep h1
      refine ⟨?_, e2, ?_⟩
      · cases v with
        | bad =>
          have : nb v' = true := by
            have hq : nb (dataV C (ts.headD 0) v') = true := by
              generalize dataV C (ts.headD 0) v' = x at e1
              cases x <;> first | rfl | simp [notBad] at e1
            exact nb_dataV hq
          exact absurd (h3 this) (by simp [nb])
        | tup vs => exact absurd rfl (hnt vs)
        | _ => rfl
      · intro base w0 E w u sim hr
        obtain ⟨E', k1, k2, k3, k4⟩ := h2.2 base w0 E w u sim hr
        exact ⟨E', S', k1, k2, e3 E' u (dataV_rep k3)⟩
theorem far_fnW {P : Program} {C : Ctx} {tab : Tab} {call : CallH V} (hC : RowsOK P C) (hT : TabOK P tab) (hcall : CallOK P call) (hm : P.follows .mixedOrders = true) (fuel : Nat) {f : FuncId} {fn : Func} (hf : P.funcs[f]? = some fn) {args : List V} {v : V} {ts : List TypeId}
    (h : evFn C tab call fuel fn args [] (fun v S => exportFW C ts v S) = some v) : FarRes P f args v := by
  obtain ⟨v', S', h1, h2⟩ := fn_ok hC hT hcall hm fuel hf h
  obtain ⟨e1, e2, e3⟩ := exportFW_rep h1
  have h3 := h2 e1
  intro m w us R hl hr hR
  refine h3.2 w.heap.size w (Env.of m) w us R (sim_start hl) hr ?_
  intro E' u w' k1 k0 k2 k3
  obtain ⟨E2, S2, l1, l2, l3⟩ := e3 _ _ E' w' u k2 k3
  exact hR E2 S2 v u w' (k1.trans l1) l2 l3 (e2 S2)
def Sp.OkW (s : Sp) (T : Tab) (C : Ctx) (fn : Func) : Prop :=
  ∀ x : dens s.ts, FitsD s.ts x → s.pre x = true → ∃ F d, evFn C T (inl T F d) F fn (ofDens s.ts x) [] (fun v S => exportFW C fn.resultTypes.toList v S) = some (s.res x)
theorem add_okW {T : Tab} {g : FuncId} {C : Ctx} {fn : Func} (s : Sp) (hT : TabFar Try.prog T) (hC : RowsOK Try.prog C) (hf : Try.prog.funcs[g]? = some fn) (hn : (fn.name == "runtime.NumGoroutine") = false) (hb : fn.body.isNone = false)
    (h : s.OkW T C fn) : TabFar Try.prog (tabAdd T g s.ts s.F) := by
  intro i ts' F' hi
  unfold tabAdd at hi
  split at hi
  · rename_i he
    obtain rfl := Nat.eq_of_beq_eq_true he
    simp only [Option.some.injEq, Prod.mk.injEq] at hi
    obtain ⟨rfl, rfl⟩ := hi
    intro vs xs v h1 h2
    refine .inl ⟨⟨fn, hf, hn, hb⟩, ?_⟩
    intro m w us R hl hr hR
    obtain ⟨x, rfl, h3⟩ := toDens_some h2
    obtain ⟨h4, rfl⟩ := Prod.mk.inj (Option.some.inj h3)
    obtain ⟨F, d, h5⟩ := h x (fitsD_of (argsV_fits h1 hr)) h4
    exact far_fnW hC (tabFar_ok hT) (inl_ok (fun _ => rows_ok _) (tabFar_ok hT) mixed fnsOK d) mixed F hf h5 m w us R hl hr hR
  · exact hT i ts' F' hi
/-- a contract more, told of the machine in some other way -/
theorem add_far {T : Tab} {g : FuncId} {fn : Func} (s : Sp) (hT : TabFar Try.prog T) (hf : Try.prog.funcs[g]? = some fn) (hn : (fn.name == "runtime.NumGoroutine") = false) (hb : fn.body.isNone = false)
    (h : ∀ x : dens s.ts, s.pre x = true → FarRes Try.prog g (ofDens s.ts x) (s.res x)) : TabFar Try.prog (tabAdd T g s.ts s.F) := by
  intro i ts' F' hi
  unfold tabAdd at hi
  split at hi
  · rename_i he
    obtain rfl := Nat.eq_of_beq_eq_true he
    simp only [Option.some.injEq, Prod.mk.injEq] at hi
    obtain ⟨rfl, rfl⟩ := hi
    intro vs xs v h1 h2
    obtain ⟨x, rfl, h3⟩ := toDens_some h2
    obtain ⟨h4, rfl⟩ := Prod.mk.inj (Option.some.inj h3)
    exact .inl ⟨⟨fn, hf, hn, hb⟩, h x h4⟩
  · exact hT i ts' F' hi
theorem add_ext {T : Tab} {g : FuncId} (s : Sp) (hT : TabFar Try.prog T) (h : ∀ x : dens s.ts, s.pre x = true → ExtRes Try.prog g (ofDens s.ts x) (s.res x)) : TabFar Try.prog (tabAdd T g s.ts s.F) := by
  intro i ts' F' hi
  unfold tabAdd at hi
  split at hi
  · rename_i he
    obtain rfl := Nat.eq_of_beq_eq_true he
    simp only [Option.some.injEq, Prod.mk.injEq] at hi
    obtain ⟨rfl, rfl⟩ := hi
    intro vs xs v h1 h2
    obtain ⟨x, rfl, h3⟩ := toDens_some h2
    obtain ⟨h4, rfl⟩ := Prod.mk.inj (Option.some.inj h3)
    exact .inr (h x h4)
  · exact hT i ts' F' hi

theorem fitsD_rep {E : Env} : ∀ {ts : List Ty} {x : dens ts} {us : List Value}, RepVs E (ofDens ts x) us → FitsD ts x
  | [], _, _, _ => trivial
  | t :: ts, x, [], h => by simp [ofDens, RepVs] at h
  | t :: ts, x, u :: us, h => by
    simp only [ofDens, RepVs] at h
    refine ⟨?_, fitsD_rep h.2⟩
    have := h.1
    simp only [RepV] at this
    obtain ⟨zs, h1, _⟩ := this
    exact RepL.fits _ _ _ h1
/-- a contract for all data, of the machine -/
theorem far_of_ok {T : Tab} {g : FuncId} {C : Ctx} {fn : Func} (s : Sp) (hT : TabFar Try.prog T) (hC : RowsOK Try.prog C) (hf : Try.prog.funcs[g]? = some fn) (h : s.Ok T C fn) (x : dens s.ts) (hp : FitsD s.ts x → s.pre x = true) : FarRes Try.prog g (ofDens s.ts x) (s.res x) := by
  intro m w us R hl hr hR
  have hx := fitsD_rep hr
  obtain ⟨F, d, h5⟩ := h x hx (hp hx)
  exact far_fnF hC (tabFar_ok hT) (inl_ok (fun _ => rows_ok _) (tabFar_ok hT) mixed fnsOK d) mixed F hf h5 m w us R hl hr hR
/-- a contract that a table has may be laid on top -/
theorem on_top {T : Tab} {g : FuncId} {s : Sp} (h : T g = s.ent) : T = tabAdd T g s.ts s.F := by
  funext i
  unfold tabAdd
  split
  · rename_i he
    obtain rfl := Nat.eq_of_beq_eq_true he
    exact h
  · rfl
theorem add_new {T : Tab} {g : FuncId} (s : Sp) : tabAdd T g s.ts s.F g = s.ent := by
  have : Nat.beq g g = true := Nat.beq_refl g
  simp only [tabAdd, this]
theorem add_old {T : Tab} {g i : FuncId} (s r : Sp) (hne : Nat.beq i g = false) (h : T i = r.ent) : tabAdd T g s.ts s.F i = r.ent := by
  simp only [tabAdd, hne]; exact h

theorem fits_by {l : List Int} : Fits (.li (.it .u8)) l ↔ l.length ≤ 140737488355328 ∧ ∀ x ∈ l, 0 ≤ x ∧ x ≤ 255 := Iff.rfl
theorem fits_i64 {n : Int} : Fits (.it .i64) n ↔ -9223372036854775808 ≤ n ∧ n ≤ 9223372036854775807 := Iff.rfl
theorem fits_u64 {n : Int} : Fits (.it .u64) n ↔ 0 ≤ n ∧ n ≤ 18446744073709551615 := Iff.rfl
theorem fits_u32 {n : Int} : Fits (.it .u32) n ↔ 0 ≤ n ∧ n ≤ 4294967295 := Iff.rfl
theorem fits_u8 {n : Int} : Fits (.it .u8) n ↔ 0 ≤ n ∧ n ≤ 255 := Iff.rfl
end Go.Proofs.Ytmpmmfbgdpfnpaa.Ev
/- Contracts of methods, of data of given kinds; contracts of functions that call methods. -/
namespace Go.Proofs.Ytmpmmfbgdpfnpaa.Ev
open Go Go.RowKit
set_option linter.unusedVariables false
set_option linter.unusedSimpArgs false
set_option maxRecDepth 100000

structure MSp where
  T : Ty
  ts : List Ty
  pre : T.den → dens ts → Bool
  post : T.den → dens ts → T.den
  res : T.den → dens ts → V
def MSp.ent (s : MSp) : MEnt := ⟨s.T, s.ts, fun x vs => toDens s.ts vs fun ys => some (s.pre x ys, s.post x ys, s.res x ys)⟩
def M0 : MTab := fun _ => none
def mAdd (M : MTab) (g : FuncId) (s : MSp) : MTab := fun i => match Nat.beq i g with | true => some s.ent | false => M i
noncomputable abbrev callM {R : Type} (M : MTab) (T : Tab) (F d : Nat) : CallH R := methH M (inl T F d)
def MSp.Ok (s : MSp) (M : MTab) (T : Tab) (C : Ctx) (fn : Func) : Prop :=
  ∀ (x : s.T.den) (ys : dens s.ts), Fits s.T x → FitsD s.ts ys → s.pre x ys = true → ∃ F d, evFn C T (callM M T F d) F fn (.p 0 0 :: ofDens s.ts ys) [.obj (flatT s.T x)] (exportM s.T) = some (s.res x ys, s.post x ys)
def Sp.OkM (s : Sp) (M : MTab) (T : Tab) (C : Ctx) (fn : Func) : Prop :=
  ∀ x : dens s.ts, FitsD s.ts x → s.pre x = true → ∃ F d, evFn C T (callM M T F d) F fn (ofDens s.ts x) [] (fun v S => exportF C fn.resultTypes.toList v S) = some (s.res x)
def Sp.OkWM (s : Sp) (M : MTab) (T : Tab) (C : Ctx) (fn : Func) : Prop :=
  ∀ x : dens s.ts, FitsD s.ts x → s.pre x = true → ∃ F d, evFn C T (callM M T F d) F fn (ofDens s.ts x) [] (fun v S => exportFW C fn.resultTypes.toList v S) = some (s.res x)
theorem m0_ok {P : Program} : MTabOK P M0 := by intro g e h; simp [M0] at h
theorem callM_ok {R : Type} {M : MTab} {T : Tab} (hM : MTabOK Try.prog M) (hT : TabFar Try.prog T) (F d : Nat) : CallOK Try.prog (callM M T F d : CallH R) :=
  meth_ok hM (inl_ok (fun _ => rows_ok _) (tabFar_ok hT) mixed fnsOK d)
theorem ofDens_env : ∀ (ts : List Ty) (x : dens ts) (E E2 : Env) (us : List Value), E2.m = E.m → RepVs E (ofDens ts x) us → RepVs E2 (ofDens ts x) us
  | [], _, _, _, us, _, h => by cases us <;> simp_all [ofDens, RepVs]
  | t :: ts, x, E, E2, [], hm, h => by simp [ofDens, RepVs] at h
  | t :: ts, x, E, E2, u :: us, hm, h => by
    simp only [ofDens, RepVs] at h ⊢
    refine ⟨?_, ofDens_env ts x.2 E E2 us hm h.2⟩
    have := h.1
    simp only [RepV] at this ⊢
    rw [hm]; exact this
theorem madd_ok {M N : MTab} {T : Tab} {g : FuncId} {C : Ctx} {fn : Func} (s : MSp) (hM : MTabOK Try.prog M) (hT : TabFar Try.prog T) (hC : RowsOK Try.prog C) (hf : Try.prog.funcs[g]? = some fn) (hn : (fn.name == "runtime.NumGoroutine") = false) (hb : fn.body.isNone = false) (hg : s.T.agg = true)
    (h : s.Ok M T C fn) : MTabOK Try.prog (mAdd M g s) := by
  intro i e hi
  unfold mAdd at hi
  split at hi
  · rename_i he
    obtain rfl := Nat.eq_of_beq_eq_true he
    obtain rfl := Option.some.inj hi
    refine ⟨⟨fn, hf, hn, hb⟩, hg, ?_⟩
    intro x vs xs x' v h1 h2
    obtain ⟨ys, rfl, h3⟩ := toDens_some h2
    obtain ⟨h4, h6⟩ := Prod.mk.inj (Option.some.inj h3)
    obtain ⟨rfl, rfl⟩ := Prod.mk.inj h6
    intro m w b us0 us ty R hl hb' hx hn' hr hR
    obtain ⟨F, d, h5⟩ := h x ys (RepL.fits _ _ _ hx) (fitsD_rep hr) h4
    exact meth_fn hC (tabFar_ok hT) (callM_ok hM hT F d) mixed F hf (ofDens_env s.ts ys) h5 m w b us0 us ty R hl hb' hx hn' hr hR
  · exact hM i e hi
theorem add_okM {M : MTab} {T : Tab} {g : FuncId} {C : Ctx} {fn : Func} (s : Sp) (hM : MTabOK Try.prog M) (hT : TabFar Try.prog T) (hC : RowsOK Try.prog C) (hf : Try.prog.funcs[g]? = some fn) (hn : (fn.name == "runtime.NumGoroutine") = false) (hb : fn.body.isNone = false)
    (h : s.OkM M T C fn) : TabFar Try.prog (tabAdd T g s.ts s.F) := by
  intro i ts' F' hi
  unfold tabAdd at hi
  split at hi
  · rename_i he
    obtain rfl := Nat.eq_of_beq_eq_true he
    simp only [Option.some.injEq, Prod.mk.injEq] at hi
    obtain ⟨rfl, rfl⟩ := hi
    intro vs xs v h1 h2
    refine .inl ⟨⟨fn, hf, hn, hb⟩, ?_⟩
    intro m w us R hl hr hR
    obtain ⟨x, rfl, h3⟩ := toDens_some h2
    obtain ⟨h4, rfl⟩ := Prod.mk.inj (Option.some.inj h3)
    obtain ⟨F, d, h5⟩ := h x (fitsD_of (argsV_fits h1 hr)) h4
    exact far_fnF hC (tabFar_ok hT) (callM_ok hM hT F d) mixed F hf h5 m w us R hl hr hR
  · exact hT i ts' F' hi
theorem add_okWM {M : MTab} {T : Tab} {g : FuncId} {C : Ctx} {fn : Func} (s : Sp) (hM : MTabOK Try.prog M) (hT : TabFar Try.prog T) (hC : RowsOK Try.prog C) (hf : Try.prog.funcs[g]? = some fn) (hn : (fn.name == "runtime.NumGoroutine") = false) (hb : fn.body.isNone = false)
    (h : s.OkWM M T C fn) : TabFar Try.prog (tabAdd T g s.ts s.F) := by
  intro i ts' F' hi
  unfold tabAdd at hi
  split at hi
  · rename_i he
    obtain rfl := Nat.eq_of_beq_eq_true he
    simp only [Option.some.injEq, Prod.mk.injEq] at hi
    obtain ⟨rfl, rfl⟩ := hi
    intro vs xs v h1 h2
    refine .inl ⟨⟨fn, hf, hn, hb⟩, ?_⟩
    intro m w us R hl hr hR
    obtain ⟨x, rfl, h3⟩ := toDens_some h2
    obtain ⟨h4, rfl⟩ := Prod.mk.inj (Option.some.inj h3)
    obtain ⟨F, d, h5⟩ := h x (fitsD_of (argsV_fits h1 hr)) h4
    exact far_fnW hC (tabFar_ok hT) (callM_ok hM hT F d) mixed F hf h5 m w us R hl hr hR
  · exact hT i ts' F' hi
/-- a function that a table doesn't have -/
def tabNo (T : Tab) (g : FuncId) : Tab := fun i => match Nat.beq i g with | true => none | false => T i
theorem off_top {T : Tab} {g : FuncId} (h : T g = none) : T = tabNo T g := by
  funext i
  unfold tabNo
  split
  · rename_i he
    obtain rfl := Nat.eq_of_beq_eq_true he
    exact h
  · rfl
theorem m_on_top {M : MTab} {g : FuncId} {s : MSp} (h : M g = some s.ent) : M = mAdd M g s := by
  funext i
  unfold mAdd
  split
  · rename_i he
    obtain rfl := Nat.eq_of_beq_eq_true he
    exact h
  · rfl
end Go.Proofs.Ytmpmmfbgdpfnpaa.Ev
