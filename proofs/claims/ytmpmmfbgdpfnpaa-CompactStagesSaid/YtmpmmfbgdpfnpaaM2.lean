/- Parts of the proof, joined by a program of this session: EvRows, EvKit. -/
import Derived.Test.YtmpmmfbgdpfnpaaM0
import Derived.Test.YtmpmmfbgdpfnpaaProg
import Derived.Test.YtmpmmfbgdpfnpaaM1
import Derived.Test.YtmpmmfbgdpfnpaaChecked
set_option linter.unusedVariables false
set_option linter.unusedSimpArgs false
set_option linter.unusedSectionVars false
/- The table of types, read off the translation. Written by a program of this session. -/
namespace Go.Proofs.Ytmpmmfbgdpfnpaa.Ev
open Go
set_option maxRecDepth 100000
def rows : List TRow := [
  ⟨.other, 0, 0, .ue, [], [], none⟩,
  ⟨.other, 0, 0, .ue, [], [], none⟩,
  ⟨.int .i64, 1, 8, (.it .i64), [(.it .i64)], [], none⟩,
  ⟨.int .i64, 1, 8, (.it .i64), [(.it .i64)], [], none⟩,
  ⟨.bool, 1, 1, .bo, [.bo], [], none⟩,
  ⟨.int .u8, 1, 1, (.it .u8), [(.it .u8)], [], none⟩,
  ⟨.int .u8, 1, 1, (.it .u8), [(.it .u8)], [], none⟩,
  ⟨.struct [(0, 2), (1, 3), (2, 4), (3, 6)], 4, 24, (.co (.it .i64) (.co (.it .i64) (.co .bo (.co (.it .u8) .ue)))), [(.it .i64), (.it .i64), .bo, (.it .u8)], [], none⟩,
  ⟨.struct [(0, 2), (1, 3), (2, 4), (3, 6)], 4, 24, (.co (.it .i64) (.co (.it .i64) (.co .bo (.co (.it .u8) .ue)))), [(.it .i64), (.it .i64), .bo, (.it .u8)], [("Error", 89, true), ("RuntimeError", 90, true)], none⟩,
  ⟨.str, 1, 16, .st, [.st], [], none⟩,
  ⟨.str, 1, 16, .st, [.st], [], none⟩,
  ⟨.str, 1, 16, .st, [.st], [], none⟩,
  ⟨.int .u64, 1, 8, (.it .u64), [(.it .u64)], [], none⟩,
  ⟨.struct [(0, 9), (1, 12)], 2, 24, (.co .st (.co (.it .u64) .ue)), [.st, (.it .u64)], [], none⟩,
  ⟨.struct [(0, 9), (1, 12)], 2, 24, (.co .st (.co (.it .u64) .ue)), [.st, (.it .u64)], [("Error", 95, true), ("RuntimeError", 96, true)], none⟩,
  ⟨.ptr 147, 1, 8, .ni, [.ni], [("Error", 97, true), ("RuntimeError", 98, true)], none⟩,
  ⟨.ptr 150, 1, 8, .ni, [.ni], [("Error", 99, true), ("RuntimeError", 100, true)], none⟩,
  ⟨.ptr 159, 1, 8, .ni, [.ni], [("Align", 101, true), ("Len", 102, true)], none⟩,
  ⟨.struct [(0, 17)], 1, 8, (.co .ni .ue), [.ni], [], none⟩,
  ⟨.struct [(0, 17)], 1, 8, (.co .ni .ue), [.ni], [("Error", 103, true), ("RuntimeError", 104, true)], none⟩,
  ⟨.other, 0, 0, .ue, [], [], none⟩,
  ⟨.int .i32, 1, 4, (.it .i32), [(.it .i32)], [], none⟩,
  ⟨.slice 27, 1, 24, (.li (.li (.co (.li (.it .u8)) (.co (.li (.it .u8)) .ue)))), [(.li (.li (.co (.li (.it .u8)) (.co (.li (.it .u8)) .ue))))], [], none⟩,
  ⟨.int .u64, 1, 8, (.it .u64), [(.it .u64)], [], none⟩,
  ⟨.slice 51, 1, 24, (.li (.co (.li (.it .u8)) (.co (.li (.it .u8)) .ue))), [(.li (.co (.li (.it .u8)) (.co (.li (.it .u8)) .ue)))], [], none⟩,
  ⟨.other, 0, 0, .ue, [], [], none⟩,
  ⟨.other, 0, 0, .ue, [], [], none⟩,
  ⟨.slice 42, 1, 24, (.li (.co (.li (.it .u8)) (.co (.li (.it .u8)) .ue))), [(.li (.co (.li (.it .u8)) (.co (.li (.it .u8)) .ue)))], [], none⟩,
  ⟨.int .i64, 1, 8, (.it .i64), [(.it .i64)], [("Error", 105, true)], none⟩,
  ⟨.other, 0, 0, .ue, [], [], none⟩,
  ⟨.other, 0, 0, .ue, [], [], none⟩,
  ⟨.other, 0, 0, .ue, [], [], none⟩,
  ⟨.other, 0, 0, .ue, [], [], none⟩,
  ⟨.other, 0, 0, .ue, [], [], none⟩,
  ⟨.other, 0, 0, .ue, [], [], none⟩,
  ⟨.slice 5, 1, 24, (.li (.it .u8)), [(.li (.it .u8))], [], none⟩,
  ⟨.other, 0, 0, .ue, [], [], none⟩,
  ⟨.other, 0, 0, .ue, [], [], none⟩,
  ⟨.other, 0, 0, .ue, [], [], none⟩,
  ⟨.other, 0, 0, .ue, [], [], none⟩,
  ⟨.other, 0, 0, .ue, [], [], none⟩,
  ⟨.struct [(0, 35), (1, 35)], 2, 48, (.co (.li (.it .u8)) (.co (.li (.it .u8)) .ue)), [(.li (.it .u8)), (.li (.it .u8))], [], none⟩,
  ⟨.struct [(0, 35), (1, 35)], 2, 48, (.co (.li (.it .u8)) (.co (.li (.it .u8)) .ue)), [(.li (.it .u8)), (.li (.it .u8))], [], none⟩,
  ⟨.other, 0, 0, .ue, [], [], none⟩,
  ⟨.other, 0, 0, .ue, [], [], none⟩,
  ⟨.other, 0, 0, .ue, [], [], none⟩,
  ⟨.other, 0, 0, .ue, [], [], none⟩,
  ⟨.other, 0, 0, .ue, [], [], none⟩,
  ⟨.other, 0, 0, .ue, [], [], none⟩,
  ⟨.other, 0, 0, .ue, [], [], none⟩,
  ⟨.struct [(0, 35), (1, 35)], 2, 48, (.co (.li (.it .u8)) (.co (.li (.it .u8)) .ue)), [(.li (.it .u8)), (.li (.it .u8))], [], none⟩,
  ⟨.struct [(0, 35), (1, 35)], 2, 48, (.co (.li (.it .u8)) (.co (.li (.it .u8)) .ue)), [(.li (.it .u8)), (.li (.it .u8))], [], none⟩,
  ⟨.other, 0, 0, .ue, [], [], none⟩,
  ⟨.other, 0, 0, .ue, [], [], none⟩,
  ⟨.other, 0, 0, .ue, [], [], none⟩,
  ⟨.other, 0, 0, .ue, [], [], none⟩,
  ⟨.other, 0, 0, .ue, [], [], none⟩,
  ⟨.other, 0, 0, .ue, [], [], none⟩,
  ⟨.other, 0, 0, .ue, [], [], none⟩,
  ⟨.slice 103, 1, 24, (.li (.co (.it .i64) (.co (.it .i64) (.co (.li (.it .u8)) (.co (.li (.it .u8)) .ue))))), [(.li (.co (.it .i64) (.co (.it .i64) (.co (.li (.it .u8)) (.co (.li (.it .u8)) .ue)))))], [], none⟩,
  ⟨.arr 5 59, 5, 120, (.ar 5 (.li (.co (.it .i64) (.co (.it .i64) (.co (.li (.it .u8)) (.co (.li (.it .u8)) .ue)))))), [(.li (.co (.it .i64) (.co (.it .i64) (.co (.li (.it .u8)) (.co (.li (.it .u8)) .ue))))), (.li (.co (.it .i64) (.co (.it .i64) (.co (.li (.it .u8)) (.co (.li (.it .u8)) .ue))))), (.li (.co (.it .i64) (.co (.it .i64) (.co (.li (.it .u8)) (.co (.li (.it .u8)) .ue))))), (.li (.co (.it .i64) (.co (.it .i64) (.co (.li (.it .u8)) (.co (.li (.it .u8)) .ue))))), (.li (.co (.it .i64) (.co (.it .i64) (.co (.li (.it .u8)) (.co (.li (.it .u8)) .ue)))))], [], none⟩,
  ⟨.struct [(0, 3), (1, 3), (2, 23), (3, 60)], 8, 144, (.co (.it .i64) (.co (.it .i64) (.co (.it .u64) (.co (.ar 5 (.li (.co (.it .i64) (.co (.it .i64) (.co (.li (.it .u8)) (.co (.li (.it .u8)) .ue)))))) .ue)))), [(.it .i64), (.it .i64), (.it .u64), (.li (.co (.it .i64) (.co (.it .i64) (.co (.li (.it .u8)) (.co (.li (.it .u8)) .ue))))), (.li (.co (.it .i64) (.co (.it .i64) (.co (.li (.it .u8)) (.co (.li (.it .u8)) .ue))))), (.li (.co (.it .i64) (.co (.it .i64) (.co (.li (.it .u8)) (.co (.li (.it .u8)) .ue))))), (.li (.co (.it .i64) (.co (.it .i64) (.co (.li (.it .u8)) (.co (.li (.it .u8)) .ue))))), (.li (.co (.it .i64) (.co (.it .i64) (.co (.li (.it .u8)) (.co (.li (.it .u8)) .ue)))))], [], none⟩,
  ⟨.struct [(0, 3), (1, 3), (2, 23), (3, 60)], 8, 144, (.co (.it .i64) (.co (.it .i64) (.co (.it .u64) (.co (.ar 5 (.li (.co (.it .i64) (.co (.it .i64) (.co (.li (.it .u8)) (.co (.li (.it .u8)) .ue)))))) .ue)))), [(.it .i64), (.it .i64), (.it .u64), (.li (.co (.it .i64) (.co (.it .i64) (.co (.li (.it .u8)) (.co (.li (.it .u8)) .ue))))), (.li (.co (.it .i64) (.co (.it .i64) (.co (.li (.it .u8)) (.co (.li (.it .u8)) .ue))))), (.li (.co (.it .i64) (.co (.it .i64) (.co (.li (.it .u8)) (.co (.li (.it .u8)) .ue))))), (.li (.co (.it .i64) (.co (.it .i64) (.co (.li (.it .u8)) (.co (.li (.it .u8)) .ue))))), (.li (.co (.it .i64) (.co (.it .i64) (.co (.li (.it .u8)) (.co (.li (.it .u8)) .ue)))))], [], none⟩,
  ⟨.struct [(0, 3), (1, 3), (2, 3)], 3, 24, (.co (.it .i64) (.co (.it .i64) (.co (.it .i64) .ue))), [(.it .i64), (.it .i64), (.it .i64)], [], none⟩,
  ⟨.struct [(0, 3), (1, 3), (2, 3)], 3, 24, (.co (.it .i64) (.co (.it .i64) (.co (.it .i64) .ue))), [(.it .i64), (.it .i64), (.it .i64)], [], none⟩,
  ⟨.other, 0, 0, .ue, [], [], none⟩,
  ⟨.other, 0, 0, .ue, [], [], none⟩,
  ⟨.other, 0, 0, .ue, [], [], none⟩,
  ⟨.other, 0, 0, .ue, [], [], none⟩,
  ⟨.other, 0, 0, .ue, [], [], none⟩,
  ⟨.other, 0, 0, .ue, [], [], none⟩,
  ⟨.other, 0, 0, .ue, [], [], none⟩,
  ⟨.struct [(0, 3), (1, 59), (2, 59)], 3, 56, (.co (.it .i64) (.co (.li (.co (.it .i64) (.co (.it .i64) (.co (.li (.it .u8)) (.co (.li (.it .u8)) .ue))))) (.co (.li (.co (.it .i64) (.co (.it .i64) (.co (.li (.it .u8)) (.co (.li (.it .u8)) .ue))))) .ue))), [(.it .i64), (.li (.co (.it .i64) (.co (.it .i64) (.co (.li (.it .u8)) (.co (.li (.it .u8)) .ue))))), (.li (.co (.it .i64) (.co (.it .i64) (.co (.li (.it .u8)) (.co (.li (.it .u8)) .ue)))))], [], none⟩,
  ⟨.struct [(0, 3), (1, 59), (2, 59)], 3, 56, (.co (.it .i64) (.co (.li (.co (.it .i64) (.co (.it .i64) (.co (.li (.it .u8)) (.co (.li (.it .u8)) .ue))))) (.co (.li (.co (.it .i64) (.co (.it .i64) (.co (.li (.it .u8)) (.co (.li (.it .u8)) .ue))))) .ue))), [(.it .i64), (.li (.co (.it .i64) (.co (.it .i64) (.co (.li (.it .u8)) (.co (.li (.it .u8)) .ue))))), (.li (.co (.it .i64) (.co (.it .i64) (.co (.li (.it .u8)) (.co (.li (.it .u8)) .ue)))))], [], none⟩,
  ⟨.other, 0, 0, .ue, [], [], none⟩,
  ⟨.other, 0, 0, .ue, [], [], none⟩,
  ⟨.other, 0, 0, .ue, [], [], none⟩,
  ⟨.other, 0, 0, .ue, [], [], none⟩,
  ⟨.other, 0, 0, .ue, [], [], none⟩,
  ⟨.other, 0, 0, .ue, [], [], none⟩,
  ⟨.other, 0, 0, .ue, [], [], none⟩,
  ⟨.other, 0, 0, .ue, [], [], none⟩,
  ⟨.other, 0, 0, .ue, [], [], none⟩,
  ⟨.other, 0, 0, .ue, [], [], none⟩,
  ⟨.other, 0, 0, .ue, [], [], none⟩,
  ⟨.other, 0, 0, .ue, [], [], none⟩,
  ⟨.other, 0, 0, .ue, [], [], none⟩,
  ⟨.other, 0, 0, .ue, [], [], none⟩,
  ⟨.other, 0, 0, .ue, [], [], none⟩,
  ⟨.other, 0, 0, .ue, [], [], none⟩,
  ⟨.other, 0, 0, .ue, [], [], none⟩,
  ⟨.slice 3, 1, 24, (.li (.it .i64)), [(.li (.it .i64))], [], none⟩,
  ⟨.other, 0, 0, .ue, [], [], none⟩,
  ⟨.other, 0, 0, .ue, [], [], none⟩,
  ⟨.other, 0, 0, .ue, [], [], none⟩,
  ⟨.other, 0, 0, .ue, [], [], none⟩,
  ⟨.slice 99, 1, 24, (.li (.co (.it .u64) (.co (.it .u64) .ue))), [(.li (.co (.it .u64) (.co (.it .u64) .ue)))], [], none⟩,
  ⟨.other, 0, 0, .ue, [], [], none⟩,
  ⟨.struct [(0, 23), (1, 23)], 2, 16, (.co (.it .u64) (.co (.it .u64) .ue)), [(.it .u64), (.it .u64)], [], none⟩,
  ⟨.struct [(0, 23), (1, 23)], 2, 16, (.co (.it .u64) (.co (.it .u64) .ue)), [(.it .u64), (.it .u64)], [("moraine/compact.above", 52, true)], none⟩,
  ⟨.other, 0, 0, .ue, [], [], none⟩,
  ⟨.other, 0, 0, .ue, [], [], none⟩,
  ⟨.struct [(0, 3), (1, 3), (2, 35), (3, 35)], 4, 64, (.co (.it .i64) (.co (.it .i64) (.co (.li (.it .u8)) (.co (.li (.it .u8)) .ue)))), [(.it .i64), (.it .i64), (.li (.it .u8)), (.li (.it .u8))], [], none⟩,
  ⟨.struct [(0, 3), (1, 3), (2, 35), (3, 35)], 4, 64, (.co (.it .i64) (.co (.it .i64) (.co (.li (.it .u8)) (.co (.li (.it .u8)) .ue)))), [(.it .i64), (.it .i64), (.li (.it .u8)), (.li (.it .u8))], [], none⟩,
  ⟨.other, 0, 0, .ue, [], [], none⟩,
  ⟨.other, 0, 0, .ue, [], [], none⟩,
  ⟨.other, 0, 0, .ue, [], [], none⟩,
  ⟨.other, 0, 0, .ue, [], [], none⟩,
  ⟨.other, 0, 0, .ue, [], [], none⟩,
  ⟨.other, 0, 0, .ue, [], [], none⟩,
  ⟨.slice 59, 1, 24, (.li (.li (.co (.it .i64) (.co (.it .i64) (.co (.li (.it .u8)) (.co (.li (.it .u8)) .ue)))))), [(.li (.li (.co (.it .i64) (.co (.it .i64) (.co (.li (.it .u8)) (.co (.li (.it .u8)) .ue))))))], [], none⟩,
  ⟨.other, 0, 0, .ue, [], [], none⟩,
  ⟨.other, 0, 0, .ue, [], [], none⟩,
  ⟨.ptr 114, 1, 8, .ni, [.ni], [("Len", 62, false), ("Less", 106, false), ("Pop", 107, true), ("Push", 108, true), ("Swap", 109, false)], none⟩,
  ⟨.slice 27, 1, 24, (.li (.li (.co (.li (.it .u8)) (.co (.li (.it .u8)) .ue)))), [(.li (.li (.co (.li (.it .u8)) (.co (.li (.it .u8)) .ue))))], [("Len", 62, true), ("Less", 106, true), ("Swap", 109, true)], none⟩,
  ⟨.other, 0, 0, .ue, [], [], none⟩,
  ⟨.other, 0, 0, .ue, [], [], none⟩,
  ⟨.other, 0, 0, .ue, [], [], none⟩,
  ⟨.other, 0, 0, .ue, [], [], none⟩,
  ⟨.other, 0, 0, .ue, [], [], none⟩,
  ⟨.other, 0, 0, .ue, [], [], none⟩,
  ⟨.other, 0, 0, .ue, [], [], none⟩,
  ⟨.other, 0, 0, .ue, [], [], none⟩,
  ⟨.other, 0, 0, .ue, [], [], some (3, .i64)⟩,
  ⟨.other, 0, 0, .ue, [], [], none⟩,
  ⟨.struct [], 0, 0, .ue, [], [], none⟩,
  ⟨.other, 0, 0, .ue, [], [], none⟩,
  ⟨.other, 0, 0, .ue, [], [], none⟩,
  ⟨.other, 0, 0, .ue, [], [], none⟩,
  ⟨.other, 0, 0, .ue, [], [], none⟩,
  ⟨.other, 0, 0, .ue, [], [], none⟩,
  ⟨.other, 0, 0, .ue, [], [], none⟩,
  ⟨.other, 0, 0, .ue, [], [], none⟩,
  ⟨.other, 0, 0, .ue, [], [], none⟩,
  ⟨.other, 0, 0, .ue, [], [], none⟩,
  ⟨.other, 0, 0, .ue, [], [], none⟩,
  ⟨.other, 0, 0, .ue, [], [], none⟩,
  ⟨.other, 0, 0, .ue, [], [], none⟩,
  ⟨.other, 0, 0, .ue, [], [], none⟩,
  ⟨.other, 0, 0, .ue, [], [], none⟩,
  ⟨.other, 0, 0, .ue, [], [], none⟩,
  ⟨.other, 0, 0, .ue, [], [], none⟩,
  ⟨.int .u64, 1, 8, (.it .u64), [(.it .u64)], [], none⟩,
  ⟨.other, 0, 0, .ue, [], [], none⟩,
  ⟨.other, 0, 0, .ue, [], [], none⟩,
  ⟨.other, 0, 0, .ue, [], [], none⟩,
  ⟨.struct [(0, 17), (1, 17), (2, 17), (3, 9)], 4, 40, (.co .ni (.co .ni (.co .ni (.co .st .ue)))), [.ni, .ni, .ni, .st], [], none⟩,
  ⟨.struct [(0, 17), (1, 17), (2, 17), (3, 9)], 4, 40, (.co .ni (.co .ni (.co .ni (.co .st .ue)))), [.ni, .ni, .ni, .st], [], none⟩,
  ⟨.arr 0 16, 0, 0, (.ar 0 .ni), [], [], none⟩,
  ⟨.other, 0, 0, .ue, [], [], none⟩,
  ⟨.other, 0, 0, .ue, [], [], none⟩,
  ⟨.int .u32, 1, 4, (.it .u32), [(.it .u32)], [], none⟩,
  ⟨.int .u8, 1, 1, (.it .u8), [(.it .u8)], [], none⟩,
  ⟨.int .u8, 1, 1, (.it .u8), [(.it .u8)], [("String", 110, true)], none⟩,
  ⟨.other, 0, 0, .ue, [], [], none⟩,
  ⟨.ptr 5, 1, 8, .ni, [.ni], [], none⟩,
  ⟨.int .i32, 1, 4, (.it .i32), [(.it .i32)], [], none⟩,
  ⟨.int .i32, 1, 4, (.it .i32), [(.it .i32)], [], none⟩,
  ⟨.other, 0, 0, .ue, [], [], none⟩,
  ⟨.other, 0, 0, .ue, [], [], none⟩,
  ⟨.other, 0, 0, .ue, [], [], none⟩]
theorem row_3 (l : Nat → List Nat × List Nat) : Ctx.row ⟨rows, l⟩ 3 = ⟨.int .i64, 1, 8, (.it .i64), [(.it .i64)], [], none⟩ := rfl
theorem row_5 (l : Nat → List Nat × List Nat) : Ctx.row ⟨rows, l⟩ 5 = ⟨.int .u8, 1, 1, (.it .u8), [(.it .u8)], [], none⟩ := rfl
theorem row_16 (l : Nat → List Nat × List Nat) : Ctx.row ⟨rows, l⟩ 16 = ⟨.ptr 150, 1, 8, .ni, [.ni], [("Error", 99, true), ("RuntimeError", 100, true)], none⟩ := rfl
theorem row_27 (l : Nat → List Nat × List Nat) : Ctx.row ⟨rows, l⟩ 27 = ⟨.slice 42, 1, 24, (.li (.co (.li (.it .u8)) (.co (.li (.it .u8)) .ue))), [(.li (.co (.li (.it .u8)) (.co (.li (.it .u8)) .ue)))], [], none⟩ := rfl
theorem row_42 (l : Nat → List Nat × List Nat) : Ctx.row ⟨rows, l⟩ 42 = ⟨.struct [(0, 35), (1, 35)], 2, 48, (.co (.li (.it .u8)) (.co (.li (.it .u8)) .ue)), [(.li (.it .u8)), (.li (.it .u8))], [], none⟩ := rfl
theorem row_51 (l : Nat → List Nat × List Nat) : Ctx.row ⟨rows, l⟩ 51 = ⟨.struct [(0, 35), (1, 35)], 2, 48, (.co (.li (.it .u8)) (.co (.li (.it .u8)) .ue)), [(.li (.it .u8)), (.li (.it .u8))], [], none⟩ := rfl
theorem row_59 (l : Nat → List Nat × List Nat) : Ctx.row ⟨rows, l⟩ 59 = ⟨.slice 103, 1, 24, (.li (.co (.it .i64) (.co (.it .i64) (.co (.li (.it .u8)) (.co (.li (.it .u8)) .ue))))), [(.li (.co (.it .i64) (.co (.it .i64) (.co (.li (.it .u8)) (.co (.li (.it .u8)) .ue)))))], [], none⟩ := rfl
theorem row_99 (l : Nat → List Nat × List Nat) : Ctx.row ⟨rows, l⟩ 99 = ⟨.struct [(0, 23), (1, 23)], 2, 16, (.co (.it .u64) (.co (.it .u64) .ue)), [(.it .u64), (.it .u64)], [("moraine/compact.above", 52, true)], none⟩ := rfl
theorem row_103 (l : Nat → List Nat × List Nat) : Ctx.row ⟨rows, l⟩ 103 = ⟨.struct [(0, 3), (1, 3), (2, 35), (3, 35)], 4, 64, (.co (.it .i64) (.co (.it .i64) (.co (.li (.it .u8)) (.co (.li (.it .u8)) .ue)))), [(.it .i64), (.it .i64), (.li (.it .u8)), (.li (.it .u8))], [], none⟩ := rfl
/-- all of them -/
theorem RR : type_of% ((And.intro row_3 (And.intro row_5 (And.intro row_16 (And.intro row_27 (And.intro row_42 (And.intro row_51 (And.intro row_59 (And.intro row_99 (And.intro row_103 True.intro)))))))))) :=
  (And.intro row_3 (And.intro row_5 (And.intro row_16 (And.intro row_27 (And.intro row_42 (And.intro row_51 (And.intro row_59 (And.intro row_99 (And.intro row_103 True.intro)))))))))
end Go.Proofs.Ytmpmmfbgdpfnpaa.Ev
/- Tools for contracts: what data may be, tables of contracts, loops, the machine's facts of the seat. -/
namespace Go.Proofs.Ytmpmmfbgdpfnpaa.Ev
open Go Go.RowKit
set_option linter.unusedVariables false
set_option linter.unusedSimpArgs false
set_option maxRecDepth 100000

/-- of a context only the table of types counts for its rows -/
theorem fieldsB_live (r : List TRow) (l l' : Nat → List Nat × List Nat) (y : Ty) : ∀ (fs : List (Nat × TypeId)) (gs : List Field) (n : Nat), fieldsB ⟨r, l⟩ y n fs gs = fieldsB ⟨r, l'⟩ y n fs gs
  | [], [], _ => rfl
  | [], _ :: _, _ => rfl
  | _ :: _, [], _ => rfl
  | (o, e) :: fs, g :: gs, n => by rw [fieldsB, fieldsB, fieldsB_live r l l' y fs gs (n + 1)]; rfl
theorem descB_live [tI : Tst] (r : List TRow) (l l' : Nat → List Nat × List Nat) (x : TRow) (d : TypeDesc) : descB ⟨r, l⟩ x d = descB ⟨r, l'⟩ x d := by
  unfold descB
  split <;> first | rfl | exact fieldsB_live r l l' _ _ _ _
theorem rowsOK_live [tI : Tst] {P : Program} {r : List TRow} {l : Nat → List Nat × List Nat} (h : RowsOK P ⟨r, l⟩) (l' : Nat → List Nat × List Nat) : RowsOK P ⟨r, l'⟩ := by
  intro t
  have := h t
  unfold rowB at this ⊢
  simp only [show ∀ t, (⟨r, l'⟩ : Ctx).row t = (⟨r, l⟩ : Ctx).row t from fun _ => rfl, descB_live r l' l]
  exact this
theorem rows_ok [tI : Tst] (l : Nat → List Nat × List Nat) : RowsOK Try.prog ⟨rows, l⟩ := rowsOK_live (l := fun _ => ([], [])) (rowsOK_of (by decide +kernel)) l
theorem mixed : Try.prog.follows .mixedOrders = true := by kernel_rfl
theorem own : ownKnob Try.prog.godebug = none := by kernel_rfl
theorem laidOut : laidOutB Try.prog = true := by kernel_rfl

def noCall {R : Type} : CallH R := fun _ _ _ _ _ => none
theorem noCall_ok {P : Program} {R : Type} : CallOK P (noCall : CallH R) := by intro g args id S k r h; simp [noCall] at h

/-- what any data of the machine's is -/
def Fits : (t : Ty) → t.den → Prop
  | .it k, n => k.min ≤ n ∧ n ≤ k.max
  | .st, l => List.length l ≤ maxL ∧ ∀ x ∈ (l : List Int), 0 ≤ x ∧ x < 256
  | .li t, xs => List.length xs ≤ maxL ∧ ∀ x ∈ (xs : List t.den), Fits t x
  | .co t r, x => Fits t x.1 ∧ Fits r x.2
  | .ar n t, xs => List.length xs = n ∧ ∀ x ∈ (xs : List t.den), Fits t x
  | _, _ => True
theorem RepL.fits {m : Mem} : ∀ (t : Ty) (x : t.den) (us : List Value), RepL m t x us → Fits t x
  | .bo, _, _, _ => trivial
  | .it _, _, _, h => h.2
  | .st, _, _, h => by
    obtain ⟨s, rfl, rfl, h3⟩ := h
    refine ⟨by simpa [strInts] using h3, fun x hx => ?_⟩
    simp only [strInts, List.mem_map] at hx
    obtain ⟨b, _, rfl⟩ := hx
    have := b.toNat_lt
    omega
  | .ni, _, _, _ => trivial
  | .li t, xs, us, h => by
    obtain ⟨a, c, rfl, h1, h2, h3, h4⟩ := h
    refine ⟨h2, fun x hx => ?_⟩
    obtain ⟨i, hi, rfl⟩ := List.getElem_of_mem hx
    cases a with
    | none => have : List.length xs = 0 := h4.1; omega
    | some ad =>
      obtain ⟨vs, _, hv⟩ := h4.2 i hi
      exact RepL.fits t _ _ hv
  | .ue, _, _, _ => trivial
  | .co t r, _, _, h => by
    obtain ⟨u1, u2, rfl, h1, h2⟩ := h
    exact ⟨RepL.fits t _ _ h1, RepL.fits r _ _ h2⟩
  | .ar n t, xs, us, h => by
    obtain ⟨h1, h2, h3⟩ := h
    refine ⟨h1, fun x hx => ?_⟩
    obtain ⟨i, hi, rfl⟩ := List.getElem_of_mem hx
    exact RepL.fits t _ _ (h3 i hi)
def FitsV : List V → Prop
  | [] => True
  | .d t x :: vs => Fits t x ∧ FitsV vs
  | _ :: _ => False
theorem argsV_fits [tI : Tst] {E : Env} : ∀ {ts : List Ty} {vs xs : List V} {us : List Value}, argsV ts vs = some xs → RepVs E xs us → FitsV xs
  | [], [], _, us, h, hr => by simp only [argsV, Option.some.injEq] at h; subst h; trivial
  | t :: ts, v :: vs, _, us, h, hr => by
    rw [argsV] at h
    cases hx : asT t v with
    | none => rw [hx] at h; simp at h
    | some x =>
      rw [hx] at h
      simp only [Option.bind_some] at h
      cases hy : argsV ts vs with
      | none => rw [hy] at h; simp at h
      | some ys =>
        rw [hy] at h
        simp only [Option.map_some, Option.some.injEq] at h; subst h
        cases us with
        | nil => simp [RepVs] at hr
        | cons u us =>
          simp only [RepVs] at hr
          refine ⟨?_, argsV_fits hy hr.2⟩
          have := hr.1
          simp only [RepV] at this
          obtain ⟨zs, h1, _⟩ := this
          exact RepL.fits _ _ _ h1
  | [], _ :: _, _, _, h, _ => by simp [argsV] at h
  | _ :: _, [], _, _, h, _ => by simp [argsV] at h

def tab0 : Tab := fun _ => none
def tabAdd (tab : Tab) (g : FuncId) (ts : List Ty) (F : List V → Option (Bool × V)) : Tab := fun i => match Nat.beq i g with | true => some (ts, F) | false => tab i
theorem tab0_far [tI : Tst] {P : Program} : TabFar P tab0 := by intro g ts F h; simp [tab0] at h
theorem tst_t [tI : Tst] {p : Prop} [Decidable p] (h : p) : tst p = true := tst_iff.2 h
theorem tst_f [tI : Tst] {p : Prop} [Decidable p] (h : ¬ p) : tst p = false := tst_not.2 h
theorem band {a b : Bool} (ha : a = true) (hb : b = true) : (a && b) = true := by rw [ha, hb]; rfl
theorem br_go [tI : Tst] {A : Type} {x : Bool} {a b r : A} (h : x = true) (k : a = r) : br x a b = r := by rw [br_t h]; exact k
theorem br_no [tI : Tst] {A : Type} {x : Bool} {a b r : A} (h : x = false) (k : b = r) : br x a b = r := by rw [br_f h]; exact k
theorem br_split [tI : Tst] {A : Type} {p : Prop} [Decidable p] {a b r : A} (h1 : p → a = r) (h2 : ¬ p → b = r) : br (tst p) a b = r := by
  by_cases h : p
  · rw [br_t (tst_t h)]; exact h1 h
  · rw [br_f (tst_f h)]; exact h2 h
theorem bo_eq {b c : Bool} (h : b = c) : some (V.d .bo b) = some (V.d .bo c) := by rw [h]
theorem bo_t [tI : Tst] {p : Prop} [Decidable p] (h : p) : some (V.d .bo true) = some (V.d .bo (tst p)) := by rw [tst_t h]
theorem bo_f [tI : Tst] {p : Prop} [Decidable p] (h : ¬ p) : some (V.d .bo false) = some (V.d .bo (tst p)) := by rw [tst_f h]
theorem bo_tst [tI : Tst] {p q : Prop} [Decidable p] [Decidable q] (h : p ↔ q) : some (V.d .bo (tst p)) = some (V.d .bo (tst q)) := by rw [tst_eq, tst_eq, decide_eq_decide.2 h]
theorem nt_t [tI : Tst] {p : Prop} [Decidable p] (h : ¬ p) : (!tst p) = true := by rw [tst_f h]; rfl
theorem nt_f [tI : Tst] {p : Prop} [Decidable p] (h : p) : (!tst p) = false := by rw [tst_t h]; rfl
theorem nI64 {n : Int} (h : -9223372036854775808 ≤ n) (h' : n < 9223372036854775808) : IntKind.i64.wrap n = n := by
  have e : IntKind.i64.wrap n = if n % 18446744073709551616 ≥ 9223372036854775808 then n % 18446744073709551616 - 18446744073709551616 else n % 18446744073709551616 := by
    simp [IntKind.wrap, IntKind.bits, IntKind.signed]
  rw [e]; split <;> omega
theorem nU64 {n : Int} (h : 0 ≤ n) (h' : n < 18446744073709551616) : IntKind.u64.wrap n = n := by
  have e : IntKind.u64.wrap n = n % 18446744073709551616 := by simp [IntKind.wrap, IntKind.bits, IntKind.signed]
  rw [e]; omega
theorem nU32 {n : Int} (h : 0 ≤ n) (h' : n < 4294967296) : IntKind.u32.wrap n = n := by
  have e : IntKind.u32.wrap n = n % 4294967296 := by simp [IntKind.wrap, IntKind.bits, IntKind.signed]
  rw [e]; omega
theorem nU8 {n : Int} (h : 0 ≤ n) (h' : n < 256) : IntKind.u8.wrap n = n := by
  have e : IntKind.u8.wrap n = n % 256 := by simp [IntKind.wrap, IntKind.bits, IntKind.signed]
  rw [e]; omega
theorem nSubL (m k : Nat) : ((m : Int) - (no_index (OfNat.ofNat k))).toNat = m - no_index (OfNat.ofNat k) := by
  show ((m : Int) - ((k : Nat) : Int)).toNat = m - k
  omega
theorem nAddL (m k : Nat) : ((m : Int) + (no_index (OfNat.ofNat k))).toNat = m + no_index (OfNat.ofNat k) := by
  show ((m : Int) + ((k : Nat) : Int)).toNat = m + k
  omega
theorem nAdd (m k : Nat) : ((m : Int) + (k : Int)).toNat = m + k := by omega
theorem nSub (m k : Nat) : ((m : Int) - (k : Int)).toNat = m - k := by omega
theorem nDiv {a b : Int} (h : 0 ≤ a) : Int.tdiv a b = a / b := Int.tdiv_eq_ediv_of_nonneg h
theorem nMod {a b : Int} (h : 0 ≤ a) : Int.tmod a b = a % b := Int.tmod_eq_emod_of_nonneg h
theorem dflt_it (k : IntKind) : (Ty.it k).dflt = (0 : Int) := rfl
theorem dflt_li (t : Ty) : (Ty.li t).dflt = ([] : List t.den) := rfl
theorem nZ : Int.toNat 0 = 0 := rfl
theorem nLit (k : Nat) : Int.toNat (no_index (OfNat.ofNat k)) = no_index (OfNat.ofNat k) := rfl
/-- the normal form's rules, all at once -/
theorem NN : type_of% (And.intro @nI64 (And.intro @nU64 (And.intro @nU32 (And.intro @nU8 (And.intro @nSubL (And.intro @nAddL (And.intro @nAdd (And.intro @nSub (And.intro @nDiv (And.intro @nMod (And.intro @nZ (And.intro @nLit (And.intro @dflt_it (And.intro @dflt_li (And.intro @Int.toNat_natCast (And.intro (@List.take_length.{0}) (And.intro (@List.drop_zero.{0}) RR))))))))))))))))) :=
  And.intro @nI64 (And.intro @nU64 (And.intro @nU32 (And.intro @nU8 (And.intro @nSubL (And.intro @nAddL (And.intro @nAdd (And.intro @nSub (And.intro @nDiv (And.intro @nMod (And.intro @nZ (And.intro @nLit (And.intro @dflt_it (And.intro @dflt_li (And.intro @Int.toNat_natCast (And.intro (@List.take_length.{0}) (And.intro (@List.drop_zero.{0}) RR))))))))))))))))
/-- lengths -/
theorem LL : type_of% (And.intro (@List.length_append.{0}) (And.intro (@List.length_cons.{0}) (And.intro (@List.length_nil.{0}) (And.intro (@List.length_take.{0}) (And.intro (@List.length_drop.{0}) (@List.length_replicate.{0})))))) :=
  And.intro (@List.length_append.{0}) (And.intro (@List.length_cons.{0}) (And.intro (@List.length_nil.{0}) (And.intro (@List.length_take.{0}) (And.intro (@List.length_drop.{0}) (@List.length_replicate.{0})))))
theorem tup_eq {xs ys : List V} (h : xs = ys) : some (V.tup xs) = some (V.tup ys) := by rw [h]
theorem cons_eq {v w : V} {vs ws : List V} (h : v = w) (hs : vs = ws) : v :: vs = w :: ws := by rw [h, hs]
theorem vd_eq {t : Ty} {x y : t.den} (h : x = y) : V.d t x = V.d t y := by rw [h]
theorem vo_eq {o : Nat} {t : Ty} {x y : List t.den} (h : x = y) : V.own o t x = V.own o t y := by rw [h]
theorem own_eq {t : Ty} {xs ys : List t.den} (h : xs = ys) (o : Nat) : some (V.own o t xs) = some (V.own o t ys) := by rw [h]
theorem d_eq {t : Ty} {x y : t.den} (h : x = y) : some (V.d t x) = some (V.d t y) := by rw [h]

/-- rounds of a loop, by what stands at their head -/
theorem loop_rule {α R : Type} {n : Nat} {live : List Nat} {body : List V → List Ent → (Ex → List V → List Ent → Option R) → Option R} {k : Ex → List V → List Ent → Option R}
    (inv : α → Prop) (μ : α → Nat) (sl : α → List V) (S : α → List Ent) (G : α → Option R)
    (hb : ∀ a (K : List V → List Ent → Option R), inv a → (∀ b, inv b → μ b < μ a → K (sl b) (S b) = G b) → body (sl a) (S a) (fun e sl S => match e with | .normal => pickK n live 0 sl fun sl => truncK n S fun S => K sl S | e => k e sl S) = G a) :
    ∀ (f : Nat) (a : α), inv a → μ a < f → loopN n live body f (sl a) (S a) k = G a
  | 0, a, _, h => by omega
  | f + 1, a, ha, h => by
    rw [loopN]
    refine hb a (fun sl S => loopN n live body f sl S k) ha ?_
    intro b hb' hlt
    exact loop_rule inv μ sl S G hb f b hb' (by omega)
/-- one round -/
theorem loop_more {R : Type} {n : Nat} {live : List Nat} {body : List V → List Ent → (Ex → List V → List Ent → Option R) → Option R} {f : Nat} {sl : List V} {S : List Ent} {k : Ex → List V → List Ent → Option R} {r : Option R} (hf : 0 < f)
    (h : body sl S (fun e sl S => match e with | .normal => pickK n live 0 sl fun sl => truncK n S fun S => loopN n live body (f - 1) sl S k | e => k e sl S) = r) : loopN n live body f sl S k = r := by
  cases f with
  | zero => omega
  | succ f => rw [loopN]; exact h
end Go.Proofs.Ytmpmmfbgdpfnpaa.Ev
