/- The functions of this seat's program, translated for the engine (printed by wip/eng/dump.lean). -/
import Derived.Test.YtejheglkoimgiaaEngV
import Derived.Test.YtejheglkoimgiaaProg
import Derived.KernelRfl
set_option maxRecDepth 1000000
set_option linter.unusedVariables false
namespace Go.Proofs.Ytejheglkoimgiaa.F
open Go Go.Eng

/-- rosary/rosarylaw19.ProbeEven -/
def sf3 : SFunc := ⟨5, 94, (.seq (.reg [⟨(some 5), .a .box, [.tmp 0], none⟩,
    ⟨(some 10), .p .move, [.lit (.bool false)], none⟩])
  (.seq (.seq (.reg [⟨(some 15), .p .move, [.tmp 1], none⟩,
    ⟨(some 16), .p (.fieldAddr 0), [.tmp 5], none⟩,
    ⟨(some 17), .r (.load none), [.tmp 16], none⟩,
    ⟨(some 18), .p (.bin .eql), [.tmp 15, .tmp 17], none⟩,
    ⟨(some 19), .p .move, [.tmp 18], none⟩,
    ⟨(some 20), .p (.fieldAddr 1), [.tmp 5], some (19, false)⟩,
    ⟨(some 21), .r (.load none), [.tmp 20], some (19, false)⟩,
    ⟨(some 22), .p (.bin .lss), [.tmp 21, .lit (.int .i64 0)], some (19, false)⟩,
    ⟨(some 23), .p .pick, [.tmp 19, .lit (.bool true), .tmp 22], none⟩,
    ⟨(some 24), .p .move, [.tmp 23], none⟩,
    ⟨(some 25), .p .move, [.tmp 3], some (24, false)⟩,
    ⟨(some 26), .p (.bin .lss), [.tmp 25, .lit (.int .i64 0)], some (24, false)⟩,
    ⟨(some 27), .p .pick, [.tmp 24, .lit (.bool true), .tmp 26], none⟩,
    ⟨(some 28), .p .move, [.tmp 27], none⟩,
    ⟨(some 29), .p .move, [.tmp 3], some (28, false)⟩,
    ⟨(some 30), .p (.bin .gtr), [.tmp 29, .lit (.int .i64 200)], some (28, false)⟩,
    ⟨(some 31), .p .pick, [.tmp 28, .lit (.bool true), .tmp 30], none⟩,
    ⟨(some 32), .p .move, [.tmp 31], none⟩,
    ⟨(some 33), .p (.fieldAddr 1), [.tmp 5], some (32, false)⟩,
    ⟨(some 34), .r (.load none), [.tmp 33], some (32, false)⟩,
    ⟨(some 35), .p (.bin .gtr), [.tmp 34, .lit (.int .i64 200)], some (32, false)⟩,
    ⟨(some 36), .p .pick, [.tmp 32, .lit (.bool true), .tmp 35], none⟩,
    ⟨(some 37), .p .move, [.tmp 36], none⟩,
    ⟨(some 38), .p (.fieldAddr 1), [.tmp 5], some (37, false)⟩,
    ⟨(some 39), .r (.load none), [.tmp 38], some (37, false)⟩,
    ⟨(some 40), .p (.bin .mul), [.lit (.int .i64 5), .tmp 39], some (37, false)⟩,
    ⟨(some 41), .p .move, [.tmp 3], some (37, false)⟩,
    ⟨(some 42), .p (.bin .mul), [.lit (.int .i64 1), .tmp 41], some (37, false)⟩,
    ⟨(some 43), .p (.bin .lss), [.tmp 40, .tmp 42], some (37, false)⟩,
    ⟨(some 44), .p .move, [.tmp 43], some (37, false)⟩,
    ⟨(some 45), .p .move, [.tmp 3], some (44, true)⟩,
    ⟨(some 46), .p (.bin .geq), [.tmp 45, .lit (.int .i64 2)], some (44, true)⟩,
    ⟨(some 47), .p .pick, [.tmp 44, .tmp 46, .lit (.bool false)], some (37, false)⟩,
    ⟨(some 48), .p .pick, [.tmp 37, .lit (.bool true), .tmp 47], none⟩,
    ⟨(some 49), .p .move, [.tmp 48], none⟩,
    ⟨(some 50), .h (.call 7), [], some (49, false)⟩,
    ⟨(some 51), .p .not, [.tmp 50], some (49, false)⟩,
    ⟨(some 52), .p .pick, [.tmp 49, .lit (.bool true), .tmp 51], none⟩])
  (.cond (.tmp 52) (.seq (.reg [⟨(some 53), .h (.call 7), [], none⟩,
    ⟨(some 10), .p .move, [.tmp 53], none⟩])
  .ret)
  .skip))
  (.seq (.reg [⟨(some 54), .p (.build [(.int .u64 0), (.int .u64 0), (.int .i64 0), (.int .i64 0)] [(3, 1)]), [.lit (.int .i64 (-1))], none⟩,
    ⟨(some 55), .p (.fieldAddr 2), [.tmp 5], none⟩,
    ⟨none, .h (.store 4), [.tmp 55, .tmp 54], none⟩])
  (.seq (.reg [⟨(some 57), .r (.load (some 10)), [.tmp 5], none⟩,
    ⟨(some 58), .p .move, [.tmp 1], none⟩,
    ⟨(some 59), .p .move, [.tmp 2], none⟩,
    ⟨(some 60), .h (.call 8), [.tmp 57, .tmp 58, .tmp 59], none⟩,
    ⟨(some 56), .p .move, [.tmp 60], none⟩,
    ⟨(some 61), .p (.extract 0), [.tmp 56], none⟩,
    ⟨(some 62), .p (.extract 1), [.tmp 56], none⟩,
    ⟨(some 11), .p .move, [.tmp 61], none⟩,
    ⟨(some 12), .p .move, [.tmp 62], none⟩])
  (.seq (.seq (.reg [⟨(some 63), .p .move, [.tmp 11], none⟩,
    ⟨(some 64), .p (.eq false .ptr), [.tmp 63, .lit .nilptr], none⟩])
  (.cond (.tmp 64) (.seq (.reg [⟨(some 10), .p .move, [.lit (.bool false)], none⟩])
  .ret)
  .skip))
  (.seq (.reg [⟨(some 66), .p .move, [.tmp 11], none⟩,
    ⟨(some 67), .p .move, [.tmp 1], none⟩,
    ⟨(some 68), .p (.fieldAddr 0), [.tmp 5], none⟩,
    ⟨(some 69), .r (.load none), [.tmp 68], none⟩,
    ⟨(some 70), .p .move, [.tmp 2], none⟩,
    ⟨(some 71), .p .move, [.tmp 3], none⟩,
    ⟨(some 72), .p .move, [.tmp 4], none⟩,
    ⟨(some 73), .p (.build [(.int .i64 0), (.int .i64 0), (.int .i64 0), (.int .i64 0), (.int .i64 0), (.str []), (.str []), (.str []), (.int .i64 0), (.int .i64 0), (.str []), .nilslice, (.bool false), (.str []), (.int .i64 0), (.int .u64 0), (.int .u64 0), (.int .i64 0), .nilslice, (.int .i64 0), (.int .i64 0)] [(0, 1), (1, 1), (2, 1), (3, 1), (19, 1), (17, 1), (20, 1)]), [.lit (.int .i64 4), .tmp 67, .tmp 69, .tmp 70, .tmp 71, .tmp 72, .lit (.int .i64 1)], none⟩,
    ⟨(some 74), .r (.load (some 10)), [.tmp 5], none⟩,
    ⟨(some 75), .h (.call 9), [.tmp 66, .tmp 73, .tmp 74], none⟩,
    ⟨(some 65), .p .move, [.tmp 75], none⟩,
    ⟨(some 76), .p (.extract 0), [.tmp 65], none⟩,
    ⟨(some 77), .p (.extract 1), [.tmp 65], none⟩,
    ⟨(some 13), .p .move, [.tmp 76], none⟩,
    ⟨(some 14), .p .move, [.tmp 77], none⟩])
  (.seq (.reg [⟨(some 78), .p .move, [.tmp 14], none⟩,
    ⟨(some 79), .p .move, [.tmp 78], none⟩,
    ⟨(some 80), .p .move, [.tmp 13], some (79, true)⟩,
    ⟨(some 81), .p .lenSl, [.tmp 80], some (79, true)⟩,
    ⟨(some 82), .p (.bin .eql), [.tmp 81, .lit (.int .i64 0)], some (79, true)⟩,
    ⟨(some 83), .p .pick, [.tmp 79, .tmp 82, .lit (.bool false)], none⟩,
    ⟨(some 84), .p .move, [.tmp 83], none⟩,
    ⟨(some 85), .p .move, [.tmp 11], some (84, true)⟩,
    ⟨(some 86), .h (.call 10), [.tmp 85], some (84, true)⟩,
    ⟨(some 87), .p (.bin .eql), [.tmp 86, .lit (.int .i64 7)], some (84, true)⟩,
    ⟨(some 88), .p .pick, [.tmp 84, .tmp 87, .lit (.bool false)], none⟩,
    ⟨(some 89), .p .move, [.tmp 88], none⟩,
    ⟨(some 90), .p .move, [.tmp 11], some (89, true)⟩,
    ⟨(some 91), .h (.call 11), [.tmp 90], some (89, true)⟩,
    ⟨(some 92), .p (.bin .eql), [.tmp 91, .lit (.int .i64 0)], some (89, true)⟩,
    ⟨(some 93), .p .pick, [.tmp 89, .tmp 92, .lit (.bool false)], none⟩,
    ⟨(some 10), .p .move, [.tmp 93], none⟩])
  .ret))))))), [.tmp 10]⟩
theorem c3 : cFunc Go.Proofs.Try.prog false 5 Go.Proofs.Try.f3 = some sf3 := by kernel_rfl
def ss3 : List Sh := [(.st [(.int .i64), (.int .i64), (.st [(.st [(.int .u64), (.int .u64)]), (.int .i64), (.int .i64)]), (.st [(.st [(.int .u64), (.int .u64)]), (.int .i64), (.int .i64)])]), (.int .i64), (.int .i64), (.int .i64), (.int .i64)]
theorem cs3 : shsOf Go.Proofs.Try.prog 12 Go.Proofs.Try.f3.params.toList = some ss3 := by kernel_rfl

/-- rosary/rosarylaw19.ProbeRoad -/
def sf4 : SFunc := ⟨6, 235, (.seq (.reg [⟨(some 12), .p .move, [.lit (.bool false)], none⟩])
  (.seq (.seq (.reg [⟨(some 20), .p .move, [.tmp 0], none⟩,
    ⟨(some 21), .p .move, [.tmp 1], none⟩,
    ⟨(some 22), .p (.bin .eql), [.tmp 20, .tmp 21], none⟩,
    ⟨(some 23), .p .move, [.tmp 22], none⟩,
    ⟨(some 24), .p .move, [.tmp 3], some (23, false)⟩,
    ⟨(some 25), .p (.bin .lss), [.tmp 24, .lit (.int .i64 2)], some (23, false)⟩,
    ⟨(some 26), .p .pick, [.tmp 23, .lit (.bool true), .tmp 25], none⟩,
    ⟨(some 27), .p .move, [.tmp 26], none⟩,
    ⟨(some 28), .p .move, [.tmp 3], some (27, false)⟩,
    ⟨(some 29), .p (.bin .gtr), [.tmp 28, .lit (.int .i64 200)], some (27, false)⟩,
    ⟨(some 30), .p .pick, [.tmp 27, .lit (.bool true), .tmp 29], none⟩,
    ⟨(some 31), .p .move, [.tmp 30], none⟩,
    ⟨(some 32), .p .move, [.tmp 4], some (31, false)⟩,
    ⟨(some 33), .p (.bin .lss), [.tmp 32, .lit (.int .i64 1)], some (31, false)⟩,
    ⟨(some 34), .p .pick, [.tmp 31, .lit (.bool true), .tmp 33], none⟩,
    ⟨(some 35), .p .move, [.tmp 34], none⟩,
    ⟨(some 36), .p .move, [.tmp 4], some (35, false)⟩,
    ⟨(some 37), .p .move, [.tmp 3], some (35, false)⟩,
    ⟨(some 38), .p (.bin .geq), [.tmp 36, .tmp 37], some (35, false)⟩,
    ⟨(some 39), .p .pick, [.tmp 35, .lit (.bool true), .tmp 38], none⟩,
    ⟨(some 40), .p .move, [.tmp 39], none⟩,
    ⟨(some 41), .h (.call 7), [], some (40, false)⟩,
    ⟨(some 42), .p .not, [.tmp 41], some (40, false)⟩,
    ⟨(some 43), .p .pick, [.tmp 40, .lit (.bool true), .tmp 42], none⟩])
  (.cond (.tmp 43) (.seq (.reg [⟨(some 44), .h (.call 7), [], none⟩,
    ⟨(some 12), .p .move, [.tmp 44], none⟩])
  .ret)
  .skip))
  (.seq (.reg [⟨(some 45), .p .move, [.tmp 0], none⟩,
    ⟨(some 46), .p (.build [(.int .u64 0), (.int .u64 0), (.int .i64 0), (.int .i64 0)] [(3, 1)]), [.lit (.int .i64 (-1))], none⟩,
    ⟨(some 47), .p (.build [(.int .u64 0), (.int .u64 0), (.int .i64 0), (.int .i64 0)] [(2, 1)]), [.lit (.int .i64 (-1))], none⟩,
    ⟨(some 48), .p (.build [(.int .i64 0), (.int .i64 0), (.int .u64 0), (.int .u64 0), (.int .i64 0), (.int .i64 0), (.int .u64 0), (.int .u64 0), (.int .i64 0), (.int .i64 0)] [(0, 1), (2, 4), (6, 4)]), [.tmp 45, .tmp 46, .tmp 47], none⟩,
    ⟨(some 13), .a (.alloc [(.int .i64 0), (.int .i64 0), (.int .u64 0), (.int .u64 0), (.int .i64 0), (.int .i64 0), (.int .u64 0), (.int .u64 0), (.int .i64 0), (.int .i64 0)]), [], none⟩,
    ⟨none, .h (.store 10), [.tmp 13, .tmp 48], none⟩])
  (.seq (.reg [⟨(some 50), .r (.load (some 10)), [.tmp 13], none⟩,
    ⟨(some 51), .p .move, [.tmp 1], none⟩,
    ⟨(some 52), .p .move, [.tmp 2], none⟩,
    ⟨(some 53), .h (.call 8), [.tmp 50, .tmp 51, .tmp 52], none⟩,
    ⟨(some 49), .p .move, [.tmp 53], none⟩,
    ⟨(some 54), .p (.extract 0), [.tmp 49], none⟩,
    ⟨(some 55), .p (.extract 1), [.tmp 49], none⟩,
    ⟨(some 14), .p .move, [.tmp 54], none⟩,
    ⟨(some 15), .p .move, [.tmp 55], none⟩])
  (.seq (.seq (.reg [⟨(some 56), .p .move, [.tmp 14], none⟩,
    ⟨(some 57), .p (.eq false .ptr), [.tmp 56, .lit .nilptr], none⟩,
    ⟨(some 58), .p .move, [.tmp 57], none⟩,
    ⟨(some 59), .p .move, [.tmp 15], some (58, false)⟩,
    ⟨(some 60), .p .lenSl, [.tmp 59], some (58, false)⟩,
    ⟨(some 61), .p (.bin .neq), [.tmp 60, .lit (.int .i64 1)], some (58, false)⟩,
    ⟨(some 62), .p .pick, [.tmp 58, .lit (.bool true), .tmp 61], none⟩,
    ⟨(some 63), .p .move, [.tmp 62], none⟩,
    ⟨(some 64), .p .move, [.tmp 15], some (63, false)⟩,
    ⟨(some 65), .p (.indexAddr 21), [.tmp 64, .lit (.int .i64 0)], some (63, false)⟩,
    ⟨(some 66), .p (.fieldAddr 0), [.tmp 65], some (63, false)⟩,
    ⟨(some 67), .r (.load none), [.tmp 66], some (63, false)⟩,
    ⟨(some 68), .p (.bin .neq), [.tmp 67, .lit (.int .i64 3)], some (63, false)⟩,
    ⟨(some 69), .p .pick, [.tmp 63, .lit (.bool true), .tmp 68], none⟩,
    ⟨(some 70), .p .move, [.tmp 69], none⟩,
    ⟨(some 71), .p .move, [.tmp 15], some (70, false)⟩,
    ⟨(some 72), .p (.indexAddr 21), [.tmp 71, .lit (.int .i64 0)], some (70, false)⟩,
    ⟨(some 73), .p (.fieldAddr 2), [.tmp 72], some (70, false)⟩,
    ⟨(some 74), .r (.load none), [.tmp 73], some (70, false)⟩,
    ⟨(some 75), .p .move, [.tmp 1], some (70, false)⟩,
    ⟨(some 76), .p (.bin .neq), [.tmp 74, .tmp 75], some (70, false)⟩,
    ⟨(some 77), .p .pick, [.tmp 70, .lit (.bool true), .tmp 76], none⟩,
    ⟨(some 78), .p .move, [.tmp 77], none⟩,
    ⟨(some 79), .p .move, [.tmp 15], some (78, false)⟩,
    ⟨(some 80), .p (.indexAddr 21), [.tmp 79, .lit (.int .i64 0)], some (78, false)⟩,
    ⟨(some 81), .p (.fieldAddr 1), [.tmp 80], some (78, false)⟩,
    ⟨(some 82), .r (.load none), [.tmp 81], some (78, false)⟩,
    ⟨(some 83), .p .move, [.tmp 0], some (78, false)⟩,
    ⟨(some 84), .p (.bin .neq), [.tmp 82, .tmp 83], some (78, false)⟩,
    ⟨(some 85), .p .pick, [.tmp 78, .lit (.bool true), .tmp 84], none⟩,
    ⟨(some 86), .p .move, [.tmp 85], none⟩,
    ⟨(some 87), .p .move, [.tmp 15], some (86, false)⟩,
    ⟨(some 88), .p (.indexAddr 21), [.tmp 87, .lit (.int .i64 0)], some (86, false)⟩,
    ⟨(some 89), .p (.fieldAddr 3), [.tmp 88], some (86, false)⟩,
    ⟨(some 90), .r (.load none), [.tmp 89], some (86, false)⟩,
    ⟨(some 91), .p .move, [.tmp 2], some (86, false)⟩,
    ⟨(some 92), .p (.bin .neq), [.tmp 90, .tmp 91], some (86, false)⟩,
    ⟨(some 93), .p .pick, [.tmp 86, .lit (.bool true), .tmp 92], none⟩])
  (.cond (.tmp 93) (.seq (.reg [⟨(some 12), .p .move, [.lit (.bool false)], none⟩])
  .ret)
  .skip))
  (.seq (.reg [⟨(some 95), .p .move, [.tmp 14], none⟩,
    ⟨(some 96), .p .move, [.tmp 1], none⟩,
    ⟨(some 97), .p .move, [.tmp 0], none⟩,
    ⟨(some 98), .p .move, [.tmp 2], none⟩,
    ⟨(some 99), .p .move, [.tmp 3], none⟩,
    ⟨(some 100), .p .move, [.tmp 4], none⟩,
    ⟨(some 101), .p (.build [(.int .i64 0), (.int .i64 0), (.int .i64 0), (.int .i64 0), (.int .i64 0), (.str []), (.str []), (.str []), (.int .i64 0), (.int .i64 0), (.str []), .nilslice, (.bool false), (.str []), (.int .i64 0), (.int .u64 0), (.int .u64 0), (.int .i64 0), .nilslice, (.int .i64 0), (.int .i64 0)] [(0, 1), (1, 1), (2, 1), (3, 1), (19, 1), (17, 1), (20, 1)]), [.lit (.int .i64 4), .tmp 96, .tmp 97, .tmp 98, .tmp 99, .tmp 100, .lit (.int .i64 1)], none⟩,
    ⟨(some 102), .r (.load (some 10)), [.tmp 13], none⟩,
    ⟨(some 103), .h (.call 9), [.tmp 95, .tmp 101, .tmp 102], none⟩,
    ⟨(some 94), .p .move, [.tmp 103], none⟩,
    ⟨(some 104), .p (.extract 0), [.tmp 94], none⟩,
    ⟨(some 105), .p (.extract 1), [.tmp 94], none⟩,
    ⟨(some 15), .p .move, [.tmp 104], none⟩])
  (.seq (.seq (.reg [⟨(some 106), .p .move, [.tmp 15], none⟩,
    ⟨(some 107), .p .lenSl, [.tmp 106], none⟩,
    ⟨(some 108), .p (.bin .neq), [.tmp 107, .lit (.int .i64 1)], none⟩,
    ⟨(some 109), .p .move, [.tmp 108], none⟩,
    ⟨(some 110), .p .move, [.tmp 15], some (109, false)⟩,
    ⟨(some 111), .p (.indexAddr 21), [.tmp 110, .lit (.int .i64 0)], some (109, false)⟩,
    ⟨(some 112), .p (.fieldAddr 0), [.tmp 111], some (109, false)⟩,
    ⟨(some 113), .r (.load none), [.tmp 112], some (109, false)⟩,
    ⟨(some 114), .p (.bin .neq), [.tmp 113, .lit (.int .i64 5)], some (109, false)⟩,
    ⟨(some 115), .p .pick, [.tmp 109, .lit (.bool true), .tmp 114], none⟩,
    ⟨(some 116), .p .move, [.tmp 115], none⟩,
    ⟨(some 117), .p .move, [.tmp 14], some (116, false)⟩,
    ⟨(some 118), .h (.call 11), [.tmp 117], some (116, false)⟩,
    ⟨(some 119), .p (.bin .neq), [.tmp 118, .lit (.int .i64 1)], some (116, false)⟩,
    ⟨(some 120), .p .pick, [.tmp 116, .lit (.bool true), .tmp 119], none⟩])
  (.cond (.tmp 120) (.seq (.reg [⟨(some 12), .p .move, [.lit (.bool false)], none⟩])
  .ret)
  .skip))
  (.seq (.reg [⟨(some 16), .p .move, [.lit (.int .i64 0)], none⟩])
  (.seq (.seq (.reg [⟨(some 121), .p .move, [.tmp 5], none⟩])
  (.cond (.tmp 121) (.reg [⟨(some 16), .p .move, [.lit (.int .i64 1)], none⟩])
  .skip))
  (.seq (.reg [⟨(some 123), .p .move, [.tmp 14], none⟩,
    ⟨(some 124), .p .move, [.tmp 1], none⟩,
    ⟨(some 125), .p .move, [.tmp 0], none⟩,
    ⟨(some 126), .p .move, [.tmp 2], none⟩,
    ⟨(some 127), .p .move, [.tmp 16], none⟩,
    ⟨(some 128), .p (.build [(.int .i64 0), (.int .i64 0), (.int .i64 0), (.int .i64 0), (.int .i64 0), (.str []), (.str []), (.str []), (.int .i64 0), (.int .i64 0), (.str []), .nilslice, (.bool false), (.str []), (.int .i64 0), (.int .u64 0), (.int .u64 0), (.int .i64 0), .nilslice, (.int .i64 0), (.int .i64 0)] [(0, 1), (1, 1), (2, 1), (3, 1), (19, 1)]), [.lit (.int .i64 6), .tmp 124, .tmp 125, .tmp 126, .tmp 127], none⟩,
    ⟨(some 129), .r (.load (some 10)), [.tmp 13], none⟩,
    ⟨(some 130), .h (.call 9), [.tmp 123, .tmp 128, .tmp 129], none⟩,
    ⟨(some 122), .p .move, [.tmp 130], none⟩,
    ⟨(some 131), .p (.extract 0), [.tmp 122], none⟩,
    ⟨(some 132), .p (.extract 1), [.tmp 122], none⟩,
    ⟨(some 15), .p .move, [.tmp 131], none⟩,
    ⟨(some 17), .p .move, [.tmp 132], none⟩])
  (.seq (.seq (.reg [⟨(some 133), .p .move, [.tmp 5], none⟩,
    ⟨(some 134), .p .not, [.tmp 133], none⟩])
  (.cond (.tmp 134) (.seq (.reg [⟨(some 135), .p .move, [.tmp 17], none⟩,
    ⟨(some 136), .p .move, [.tmp 135], none⟩,
    ⟨(some 137), .p .move, [.tmp 15], some (136, true)⟩,
    ⟨(some 138), .p .lenSl, [.tmp 137], some (136, true)⟩,
    ⟨(some 139), .p (.bin .eql), [.tmp 138, .lit (.int .i64 0)], some (136, true)⟩,
    ⟨(some 140), .p .pick, [.tmp 136, .tmp 139, .lit (.bool false)], none⟩,
    ⟨(some 12), .p .move, [.tmp 140], none⟩])
  .ret)
  .skip))
  (.seq (.seq (.reg [⟨(some 141), .p .move, [.tmp 17], none⟩,
    ⟨(some 142), .p .move, [.tmp 141], none⟩,
    ⟨(some 143), .p .move, [.tmp 15], some (142, false)⟩,
    ⟨(some 144), .p .lenSl, [.tmp 143], some (142, false)⟩,
    ⟨(some 145), .p (.bin .neq), [.tmp 144, .lit (.int .i64 1)], some (142, false)⟩,
    ⟨(some 146), .p .pick, [.tmp 142, .lit (.bool true), .tmp 145], none⟩,
    ⟨(some 147), .p .move, [.tmp 146], none⟩,
    ⟨(some 148), .p .move, [.tmp 15], some (147, false)⟩,
    ⟨(some 149), .p (.indexAddr 21), [.tmp 148, .lit (.int .i64 0)], some (147, false)⟩,
    ⟨(some 150), .p (.fieldAddr 0), [.tmp 149], some (147, false)⟩,
    ⟨(some 151), .r (.load none), [.tmp 150], some (147, false)⟩,
    ⟨(some 152), .p (.bin .neq), [.tmp 151, .lit (.int .i64 8)], some (147, false)⟩,
    ⟨(some 153), .p .pick, [.tmp 147, .lit (.bool true), .tmp 152], none⟩,
    ⟨(some 154), .p .move, [.tmp 153], none⟩,
    ⟨(some 155), .p .move, [.tmp 15], some (154, false)⟩,
    ⟨(some 156), .p (.indexAddr 21), [.tmp 155, .lit (.int .i64 0)], some (154, false)⟩,
    ⟨(some 157), .p (.fieldAddr 20), [.tmp 156], some (154, false)⟩,
    ⟨(some 158), .r (.load none), [.tmp 157], some (154, false)⟩,
    ⟨(some 159), .p .move, [.tmp 0], some (154, false)⟩,
    ⟨(some 160), .p (.bin .neq), [.tmp 158, .tmp 159], some (154, false)⟩,
    ⟨(some 161), .p .pick, [.tmp 154, .lit (.bool true), .tmp 160], none⟩,
    ⟨(some 162), .p .move, [.tmp 161], none⟩,
    ⟨(some 163), .p .move, [.tmp 15], some (162, false)⟩,
    ⟨(some 164), .p (.indexAddr 21), [.tmp 163, .lit (.int .i64 0)], some (162, false)⟩,
    ⟨(some 165), .p (.fieldAddr 19), [.tmp 164], some (162, false)⟩,
    ⟨(some 166), .r (.load none), [.tmp 165], some (162, false)⟩,
    ⟨(some 167), .p (.bin .neq), [.tmp 166, .lit (.int .i64 0)], some (162, false)⟩,
    ⟨(some 168), .p .pick, [.tmp 162, .lit (.bool true), .tmp 167], none⟩,
    ⟨(some 169), .p .move, [.tmp 168], none⟩,
    ⟨(some 170), .p .move, [.tmp 15], some (169, false)⟩,
    ⟨(some 171), .p (.indexAddr 21), [.tmp 170, .lit (.int .i64 0)], some (169, false)⟩,
    ⟨(some 172), .p (.fieldAddr 17), [.tmp 171], some (169, false)⟩,
    ⟨(some 173), .r (.load none), [.tmp 172], some (169, false)⟩,
    ⟨(some 174), .p (.bin .neq), [.tmp 173, .lit (.int .i64 1)], some (169, false)⟩,
    ⟨(some 175), .p .pick, [.tmp 169, .lit (.bool true), .tmp 174], none⟩,
    ⟨(some 176), .p .move, [.tmp 175], none⟩,
    ⟨(some 177), .p .move, [.tmp 15], some (176, false)⟩,
    ⟨(some 178), .p (.indexAddr 21), [.tmp 177, .lit (.int .i64 0)], some (176, false)⟩,
    ⟨(some 179), .p (.fieldAddr 2), [.tmp 178], some (176, false)⟩,
    ⟨(some 180), .r (.load none), [.tmp 179], some (176, false)⟩,
    ⟨(some 181), .p .move, [.tmp 1], some (176, false)⟩,
    ⟨(some 182), .p (.bin .neq), [.tmp 180, .tmp 181], some (176, false)⟩,
    ⟨(some 183), .p .pick, [.tmp 176, .lit (.bool true), .tmp 182], none⟩])
  (.cond (.tmp 183) (.seq (.reg [⟨(some 12), .p .move, [.lit (.bool false)], none⟩])
  .ret)
  .skip))
  (.seq (.reg [⟨(some 185), .p .move, [.tmp 14], none⟩,
    ⟨(some 186), .p .move, [.tmp 1], none⟩,
    ⟨(some 187), .p .move, [.tmp 0], none⟩,
    ⟨(some 188), .p .move, [.tmp 2], none⟩,
    ⟨(some 189), .p (.build [(.int .i64 0), (.int .i64 0), (.int .i64 0), (.int .i64 0), (.int .i64 0), (.str []), (.str []), (.str []), (.int .i64 0), (.int .i64 0), (.str []), .nilslice, (.bool false), (.str []), (.int .i64 0), (.int .u64 0), (.int .u64 0), (.int .i64 0), .nilslice, (.int .i64 0), (.int .i64 0)] [(0, 1), (1, 1), (2, 1), (3, 1), (19, 1)]), [.lit (.int .i64 9), .tmp 186, .tmp 187, .tmp 188, .lit (.int .i64 1)], none⟩,
    ⟨(some 190), .r (.load (some 10)), [.tmp 13], none⟩,
    ⟨(some 191), .h (.call 9), [.tmp 185, .tmp 189, .tmp 190], none⟩,
    ⟨(some 184), .p .move, [.tmp 191], none⟩,
    ⟨(some 192), .p (.extract 0), [.tmp 184], none⟩,
    ⟨(some 193), .p (.extract 1), [.tmp 184], none⟩,
    ⟨(some 15), .p .move, [.tmp 192], none⟩,
    ⟨(some 17), .p .move, [.tmp 193], none⟩])
  (.seq (.reg [⟨(some 195), .p .move, [.tmp 14], none⟩,
    ⟨(some 196), .p .move, [.tmp 1], none⟩,
    ⟨(some 197), .p .move, [.tmp 0], none⟩,
    ⟨(some 198), .p .move, [.tmp 2], none⟩,
    ⟨(some 199), .p (.build [(.int .i64 0), (.int .i64 0), (.int .i64 0), (.int .i64 0), (.int .i64 0), (.str []), (.str []), (.str []), (.int .i64 0), (.int .i64 0), (.str []), .nilslice, (.bool false), (.str []), (.int .i64 0), (.int .u64 0), (.int .u64 0), (.int .i64 0), .nilslice, (.int .i64 0), (.int .i64 0)] [(0, 1), (1, 1), (2, 1), (3, 1), (19, 1)]), [.lit (.int .i64 9), .tmp 196, .tmp 197, .tmp 198, .lit (.int .i64 1)], none⟩,
    ⟨(some 200), .r (.load (some 10)), [.tmp 13], none⟩,
    ⟨(some 201), .h (.call 9), [.tmp 195, .tmp 199, .tmp 200], none⟩,
    ⟨(some 194), .p .move, [.tmp 201], none⟩,
    ⟨(some 202), .p (.extract 0), [.tmp 194], none⟩,
    ⟨(some 203), .p (.extract 1), [.tmp 194], none⟩,
    ⟨(some 18), .p .move, [.tmp 202], none⟩,
    ⟨(some 19), .p .move, [.tmp 203], none⟩])
  (.seq (.reg [⟨(some 204), .p .move, [.tmp 17], none⟩,
    ⟨(some 205), .p .move, [.tmp 204], none⟩,
    ⟨(some 206), .p .move, [.tmp 15], some (205, true)⟩,
    ⟨(some 207), .p .lenSl, [.tmp 206], some (205, true)⟩,
    ⟨(some 208), .p (.bin .eql), [.tmp 207, .lit (.int .i64 1)], some (205, true)⟩,
    ⟨(some 209), .p .pick, [.tmp 205, .tmp 208, .lit (.bool false)], none⟩,
    ⟨(some 210), .p .move, [.tmp 209], none⟩,
    ⟨(some 211), .p .move, [.tmp 15], some (210, true)⟩,
    ⟨(some 212), .p (.indexAddr 21), [.tmp 211, .lit (.int .i64 0)], some (210, true)⟩,
    ⟨(some 213), .p (.fieldAddr 0), [.tmp 212], some (210, true)⟩,
    ⟨(some 214), .r (.load none), [.tmp 213], some (210, true)⟩,
    ⟨(some 215), .p (.bin .eql), [.tmp 214, .lit (.int .i64 7)], some (210, true)⟩,
    ⟨(some 216), .p .pick, [.tmp 210, .tmp 215, .lit (.bool false)], none⟩,
    ⟨(some 217), .p .move, [.tmp 216], none⟩,
    ⟨(some 218), .p .move, [.tmp 15], some (217, true)⟩,
    ⟨(some 219), .p (.indexAddr 21), [.tmp 218, .lit (.int .i64 0)], some (217, true)⟩,
    ⟨(some 220), .p (.fieldAddr 2), [.tmp 219], some (217, true)⟩,
    ⟨(some 221), .r (.load none), [.tmp 220], some (217, true)⟩,
    ⟨(some 222), .p .move, [.tmp 1], some (217, true)⟩,
    ⟨(some 223), .p (.bin .eql), [.tmp 221, .tmp 222], some (217, true)⟩,
    ⟨(some 224), .p .pick, [.tmp 217, .tmp 223, .lit (.bool false)], none⟩,
    ⟨(some 225), .p .move, [.tmp 224], none⟩,
    ⟨(some 226), .p .move, [.tmp 18], some (225, true)⟩,
    ⟨(some 227), .p .lenSl, [.tmp 226], some (225, true)⟩,
    ⟨(some 228), .p (.bin .eql), [.tmp 227, .lit (.int .i64 0)], some (225, true)⟩,
    ⟨(some 229), .p .pick, [.tmp 225, .tmp 228, .lit (.bool false)], none⟩,
    ⟨(some 230), .p .move, [.tmp 229], none⟩,
    ⟨(some 231), .p .move, [.tmp 14], some (230, true)⟩,
    ⟨(some 232), .h (.call 10), [.tmp 231], some (230, true)⟩,
    ⟨(some 233), .p (.bin .eql), [.tmp 232, .lit (.int .i64 7)], some (230, true)⟩,
    ⟨(some 234), .p .pick, [.tmp 230, .tmp 233, .lit (.bool false)], none⟩,
    ⟨(some 12), .p .move, [.tmp 234], none⟩])
  .ret))))))))))))))), [.tmp 12]⟩
theorem c4 : cFunc Go.Proofs.Try.prog false 6 Go.Proofs.Try.f4 = some sf4 := by kernel_rfl
def ss4 : List Sh := [(.int .i64), (.int .i64), (.int .i64), (.int .i64), (.int .i64), .bool]
theorem cs4 : shsOf Go.Proofs.Try.prog 12 Go.Proofs.Try.f4.params.toList = some ss4 := by kernel_rfl

/-- rosary/rosarylaw19.ProbeUppers -/
def sf5 : SFunc := ⟨4, 144, (.seq (.reg [⟨(some 8), .p .move, [.lit (.bool false)], none⟩])
  (.seq (.seq (.reg [⟨(some 14), .p .move, [.tmp 3], none⟩,
    ⟨(some 15), .p (.bin .lss), [.tmp 14, .lit (.int .i64 0)], none⟩,
    ⟨(some 16), .p .move, [.tmp 15], none⟩,
    ⟨(some 17), .p .move, [.tmp 1], some (16, false)⟩,
    ⟨(some 18), .p (.bin .gtr), [.tmp 17, .lit (.int .i64 200)], some (16, false)⟩,
    ⟨(some 19), .p .pick, [.tmp 16, .lit (.bool true), .tmp 18], none⟩,
    ⟨(some 20), .p .move, [.tmp 19], none⟩,
    ⟨(some 21), .p .move, [.tmp 1], some (20, false)⟩,
    ⟨(some 22), .p (.bin .lss), [.tmp 21, .lit (.int .i64 2)], some (20, false)⟩,
    ⟨(some 23), .p .pick, [.tmp 20, .lit (.bool true), .tmp 22], none⟩,
    ⟨(some 24), .p .move, [.tmp 23], none⟩,
    ⟨(some 25), .p .move, [.tmp 3], some (24, false)⟩,
    ⟨(some 26), .p (.bin .mul), [.lit (.int .i64 5), .tmp 25], some (24, false)⟩,
    ⟨(some 27), .p .move, [.tmp 1], some (24, false)⟩,
    ⟨(some 28), .p (.bin .geq), [.tmp 26, .tmp 27], some (24, false)⟩,
    ⟨(some 29), .p .pick, [.tmp 24, .lit (.bool true), .tmp 28], none⟩,
    ⟨(some 30), .p .move, [.tmp 29], none⟩,
    ⟨(some 31), .p .move, [.tmp 2], some (30, false)⟩,
    ⟨(some 32), .p (.bin .lss), [.tmp 31, .lit (.int .i64 1)], some (30, false)⟩,
    ⟨(some 33), .p .pick, [.tmp 30, .lit (.bool true), .tmp 32], none⟩,
    ⟨(some 34), .p .move, [.tmp 33], none⟩,
    ⟨(some 35), .p .move, [.tmp 2], some (34, false)⟩,
    ⟨(some 36), .p .move, [.tmp 1], some (34, false)⟩,
    ⟨(some 37), .p (.bin .geq), [.tmp 35, .tmp 36], some (34, false)⟩,
    ⟨(some 38), .p .pick, [.tmp 34, .lit (.bool true), .tmp 37], none⟩,
    ⟨(some 39), .p .move, [.tmp 38], none⟩,
    ⟨(some 40), .h (.call 7), [], some (39, false)⟩,
    ⟨(some 41), .p .not, [.tmp 40], some (39, false)⟩,
    ⟨(some 42), .p .pick, [.tmp 39, .lit (.bool true), .tmp 41], none⟩])
  (.cond (.tmp 42) (.seq (.reg [⟨(some 43), .h (.call 7), [], none⟩,
    ⟨(some 8), .p .move, [.tmp 43], none⟩])
  .ret)
  .skip))
  (.seq (.reg [⟨(some 44), .p .move, [.tmp 3], none⟩,
    ⟨(some 45), .p (.build [(.int .u64 0), (.int .u64 0)] [(0, 1), (1, 1)]), [.lit (.int .u64 10), .lit (.int .u64 20)], none⟩,
    ⟨(some 46), .p (.build [(.int .u64 0), (.int .u64 0), (.int .i64 0), (.int .i64 0)] [(0, 2), (2, 1)]), [.tmp 45, .lit (.int .i64 1)], none⟩,
    ⟨(some 47), .p (.build [(.int .u64 0), (.int .u64 0), (.int .i64 0), (.int .i64 0)] [(2, 1)]), [.lit (.int .i64 3)], none⟩,
    ⟨(some 48), .p (.build [(.int .i64 0), (.int .i64 0), (.int .u64 0), (.int .u64 0), (.int .i64 0), (.int .i64 0), (.int .u64 0), (.int .u64 0), (.int .i64 0), (.int .i64 0)] [(0, 1), (1, 1), (2, 4), (6, 4)]), [.lit (.int .i64 1), .tmp 44, .tmp 46, .tmp 47], none⟩,
    ⟨(some 9), .a (.alloc [(.int .i64 0), (.int .i64 0), (.int .u64 0), (.int .u64 0), (.int .i64 0), (.int .i64 0), (.int .u64 0), (.int .u64 0), (.int .i64 0), (.int .i64 0)]), [], none⟩,
    ⟨none, .h (.store 10), [.tmp 9, .tmp 48], none⟩])
  (.seq (.reg [⟨(some 50), .r (.load (some 10)), [.tmp 9], none⟩,
    ⟨(some 51), .p .move, [.tmp 0], none⟩,
    ⟨(some 52), .h (.call 8), [.tmp 50, .lit (.int .i64 2), .tmp 51], none⟩,
    ⟨(some 49), .p .move, [.tmp 52], none⟩,
    ⟨(some 53), .p (.extract 0), [.tmp 49], none⟩,
    ⟨(some 54), .p (.extract 1), [.tmp 49], none⟩,
    ⟨(some 10), .p .move, [.tmp 53], none⟩,
    ⟨(some 11), .p .move, [.tmp 54], none⟩])
  (.seq (.seq (.reg [⟨(some 55), .p .move, [.tmp 10], none⟩,
    ⟨(some 56), .p (.eq false .ptr), [.tmp 55, .lit .nilptr], none⟩])
  (.cond (.tmp 56) (.seq (.reg [⟨(some 8), .p .move, [.lit (.bool false)], none⟩])
  .ret)
  .skip))
  (.seq (.reg [⟨(some 58), .p .move, [.tmp 10], none⟩,
    ⟨(some 59), .p .move, [.tmp 0], none⟩,
    ⟨(some 60), .p .move, [.tmp 1], none⟩,
    ⟨(some 61), .p .move, [.tmp 2], none⟩,
    ⟨(some 62), .p (.build [(.int .u64 0), (.int .u64 0)] [(0, 1), (1, 1)]), [.lit (.int .u64 5), .lit (.int .u64 10)], none⟩,
    ⟨(some 63), .p (.build [(.int .i64 0), (.int .i64 0), (.int .i64 0), (.int .i64 0), (.int .i64 0), (.str []), (.str []), (.str []), (.int .i64 0), (.int .i64 0), (.str []), .nilslice, (.bool false), (.str []), (.int .i64 0), (.int .u64 0), (.int .u64 0), (.int .i64 0), .nilslice, (.int .i64 0), (.int .i64 0)] [(0, 1), (1, 1), (2, 1), (3, 1), (19, 1), (17, 1), (20, 1), (15, 2)]), [.lit (.int .i64 4), .lit (.int .i64 2), .lit (.int .i64 1), .tmp 59, .tmp 60, .tmp 61, .lit (.int .i64 1), .tmp 62], none⟩,
    ⟨(some 64), .r (.load (some 10)), [.tmp 9], none⟩,
    ⟨(some 65), .h (.call 9), [.tmp 58, .tmp 63, .tmp 64], none⟩,
    ⟨(some 57), .p .move, [.tmp 65], none⟩,
    ⟨(some 66), .p (.extract 0), [.tmp 57], none⟩,
    ⟨(some 67), .p (.extract 1), [.tmp 57], none⟩,
    ⟨(some 12), .p .move, [.tmp 66], none⟩,
    ⟨(some 13), .p .move, [.tmp 67], none⟩])
  (.seq (.seq (.reg [⟨(some 68), .p .move, [.tmp 1], none⟩,
    ⟨(some 69), .p .move, [.tmp 2], none⟩,
    ⟨(some 70), .p (.bin .sub), [.tmp 68, .tmp 69], none⟩,
    ⟨(some 71), .p .move, [.tmp 1], none⟩,
    ⟨(some 72), .p .move, [.tmp 3], none⟩,
    ⟨(some 73), .p (.bin .sub), [.tmp 71, .tmp 72], none⟩,
    ⟨(some 74), .p (.bin .geq), [.tmp 70, .tmp 73], none⟩])
  (.cond (.tmp 74) (.seq (.reg [⟨(some 75), .p .move, [.tmp 13], none⟩,
    ⟨(some 76), .p .move, [.tmp 75], none⟩,
    ⟨(some 77), .p .move, [.tmp 12], some (76, true)⟩,
    ⟨(some 78), .p .lenSl, [.tmp 77], some (76, true)⟩,
    ⟨(some 79), .p (.bin .eql), [.tmp 78, .lit (.int .i64 0)], some (76, true)⟩,
    ⟨(some 80), .p .pick, [.tmp 76, .tmp 79, .lit (.bool false)], none⟩,
    ⟨(some 81), .p .move, [.tmp 80], none⟩,
    ⟨(some 82), .p .move, [.tmp 10], some (81, true)⟩,
    ⟨(some 83), .h (.call 11), [.tmp 82], some (81, true)⟩,
    ⟨(some 84), .p (.bin .eql), [.tmp 83, .lit (.int .i64 0)], some (81, true)⟩,
    ⟨(some 85), .p .pick, [.tmp 81, .tmp 84, .lit (.bool false)], none⟩,
    ⟨(some 8), .p .move, [.tmp 85], none⟩])
  .ret)
  .skip))
  (.seq (.seq (.reg [⟨(some 86), .p .move, [.tmp 13], none⟩,
    ⟨(some 87), .p .move, [.tmp 86], none⟩,
    ⟨(some 88), .p .move, [.tmp 12], some (87, false)⟩,
    ⟨(some 89), .p .lenSl, [.tmp 88], some (87, false)⟩,
    ⟨(some 90), .p (.bin .neq), [.tmp 89, .lit (.int .i64 1)], some (87, false)⟩,
    ⟨(some 91), .p .pick, [.tmp 87, .lit (.bool true), .tmp 90], none⟩,
    ⟨(some 92), .p .move, [.tmp 91], none⟩,
    ⟨(some 93), .p .move, [.tmp 12], some (92, false)⟩,
    ⟨(some 94), .p (.indexAddr 21), [.tmp 93, .lit (.int .i64 0)], some (92, false)⟩,
    ⟨(some 95), .p (.fieldAddr 0), [.tmp 94], some (92, false)⟩,
    ⟨(some 96), .r (.load none), [.tmp 95], some (92, false)⟩,
    ⟨(some 97), .p (.bin .neq), [.tmp 96, .lit (.int .i64 5)], some (92, false)⟩,
    ⟨(some 98), .p .pick, [.tmp 92, .lit (.bool true), .tmp 97], none⟩,
    ⟨(some 99), .p .move, [.tmp 98], none⟩,
    ⟨(some 100), .p .move, [.tmp 10], some (99, false)⟩,
    ⟨(some 101), .h (.call 11), [.tmp 100], some (99, false)⟩,
    ⟨(some 102), .p (.bin .neq), [.tmp 101, .lit (.int .i64 2)], some (99, false)⟩,
    ⟨(some 103), .p .pick, [.tmp 99, .lit (.bool true), .tmp 102], none⟩])
  (.cond (.tmp 103) (.seq (.reg [⟨(some 8), .p .move, [.lit (.bool false)], none⟩])
  .ret)
  .skip))
  (.seq (.reg [⟨(some 105), .p .move, [.tmp 10], none⟩,
    ⟨(some 106), .p .move, [.tmp 0], none⟩,
    ⟨(some 107), .p (.build [(.int .i64 0), (.int .i64 0), (.int .i64 0), (.int .i64 0), (.int .i64 0), (.str []), (.str []), (.str []), (.int .i64 0), (.int .i64 0), (.str []), .nilslice, (.bool false), (.str []), (.int .i64 0), (.int .u64 0), (.int .u64 0), (.int .i64 0), .nilslice, (.int .i64 0), (.int .i64 0)] [(0, 1), (1, 1), (2, 1), (3, 1), (19, 1)]), [.lit (.int .i64 6), .lit (.int .i64 2), .lit (.int .i64 1), .tmp 106, .lit (.int .i64 1)], none⟩,
    ⟨(some 108), .r (.load (some 10)), [.tmp 9], none⟩,
    ⟨(some 109), .h (.call 9), [.tmp 105, .tmp 107, .tmp 108], none⟩,
    ⟨(some 104), .p .move, [.tmp 109], none⟩,
    ⟨(some 110), .p (.extract 0), [.tmp 104], none⟩,
    ⟨(some 111), .p (.extract 1), [.tmp 104], none⟩,
    ⟨(some 12), .p .move, [.tmp 110], none⟩])
  (.seq (.reg [⟨(some 112), .p .move, [.tmp 12], none⟩,
    ⟨(some 113), .p .lenSl, [.tmp 112], none⟩,
    ⟨(some 114), .p (.bin .eql), [.tmp 113, .lit (.int .i64 1)], none⟩,
    ⟨(some 115), .p .move, [.tmp 114], none⟩,
    ⟨(some 116), .p .move, [.tmp 12], some (115, true)⟩,
    ⟨(some 117), .p (.indexAddr 21), [.tmp 116, .lit (.int .i64 0)], some (115, true)⟩,
    ⟨(some 118), .p (.fieldAddr 0), [.tmp 117], some (115, true)⟩,
    ⟨(some 119), .r (.load none), [.tmp 118], some (115, true)⟩,
    ⟨(some 120), .p (.bin .eql), [.tmp 119, .lit (.int .i64 8)], some (115, true)⟩,
    ⟨(some 121), .p .pick, [.tmp 115, .tmp 120, .lit (.bool false)], none⟩,
    ⟨(some 122), .p .move, [.tmp 121], none⟩,
    ⟨(some 123), .p .move, [.tmp 12], some (122, true)⟩,
    ⟨(some 124), .p (.indexAddr 21), [.tmp 123, .lit (.int .i64 0)], some (122, true)⟩,
    ⟨(some 125), .p (.fieldAddr 17), [.tmp 124], some (122, true)⟩,
    ⟨(some 126), .r (.load none), [.tmp 125], some (122, true)⟩,
    ⟨(some 127), .p (.bin .eql), [.tmp 126, .lit (.int .i64 2)], some (122, true)⟩,
    ⟨(some 128), .p .pick, [.tmp 122, .tmp 127, .lit (.bool false)], none⟩,
    ⟨(some 129), .p .move, [.tmp 128], none⟩,
    ⟨(some 130), .p .move, [.tmp 12], some (129, true)⟩,
    ⟨(some 131), .p (.indexAddr 21), [.tmp 130, .lit (.int .i64 0)], some (129, true)⟩,
    ⟨(some 132), .p (.fieldAddr 19), [.tmp 131], some (129, true)⟩,
    ⟨(some 133), .r (.load none), [.tmp 132], some (129, true)⟩,
    ⟨(some 134), .p .move, [.tmp 3], some (129, true)⟩,
    ⟨(some 135), .p (.bin .eql), [.tmp 133, .tmp 134], some (129, true)⟩,
    ⟨(some 136), .p .pick, [.tmp 129, .tmp 135, .lit (.bool false)], none⟩,
    ⟨(some 137), .p .move, [.tmp 136], none⟩,
    ⟨(some 138), .p .move, [.tmp 12], some (137, true)⟩,
    ⟨(some 139), .p (.indexAddr 21), [.tmp 138, .lit (.int .i64 0)], some (137, true)⟩,
    ⟨(some 140), .p (.fieldAddr 20), [.tmp 139], some (137, true)⟩,
    ⟨(some 141), .r (.load none), [.tmp 140], some (137, true)⟩,
    ⟨(some 142), .p (.bin .eql), [.tmp 141, .lit (.int .i64 1)], some (137, true)⟩,
    ⟨(some 143), .p .pick, [.tmp 137, .tmp 142, .lit (.bool false)], none⟩,
    ⟨(some 8), .p .move, [.tmp 143], none⟩])
  .ret)))))))))), [.tmp 8]⟩
theorem c5 : cFunc Go.Proofs.Try.prog false 4 Go.Proofs.Try.f5 = some sf5 := by kernel_rfl
def ss5 : List Sh := [(.int .i64), (.int .i64), (.int .i64), (.int .i64)]
theorem cs5 : shsOf Go.Proofs.Try.prog 12 Go.Proofs.Try.f5.params.toList = some ss5 := by kernel_rfl

/-- rosary/rosarylaw19.ProbeHops -/
def sf6 : SFunc := ⟨5, 307, (.seq (.reg [⟨(some 10), .p .move, [.lit (.bool false)], none⟩])
  (.seq (.seq (.reg [⟨(some 18), .p .move, [.tmp 1], none⟩,
    ⟨(some 19), .p (.bin .lss), [.tmp 18, .lit (.int .i64 6)], none⟩,
    ⟨(some 20), .p .move, [.tmp 19], none⟩,
    ⟨(some 21), .p .move, [.tmp 1], some (20, false)⟩,
    ⟨(some 22), .p (.bin .gtr), [.tmp 21, .lit (.int .i64 200)], some (20, false)⟩,
    ⟨(some 23), .p .pick, [.tmp 20, .lit (.bool true), .tmp 22], none⟩,
    ⟨(some 24), .p .move, [.tmp 23], none⟩,
    ⟨(some 25), .p .move, [.tmp 2], some (24, false)⟩,
    ⟨(some 26), .p (.bin .lss), [.tmp 25, .lit (.int .i64 1)], some (24, false)⟩,
    ⟨(some 27), .p .pick, [.tmp 24, .lit (.bool true), .tmp 26], none⟩,
    ⟨(some 28), .p .move, [.tmp 27], none⟩,
    ⟨(some 29), .p .move, [.tmp 2], some (28, false)⟩,
    ⟨(some 30), .p .move, [.tmp 1], some (28, false)⟩,
    ⟨(some 31), .p (.bin .geq), [.tmp 29, .tmp 30], some (28, false)⟩,
    ⟨(some 32), .p .pick, [.tmp 28, .lit (.bool true), .tmp 31], none⟩,
    ⟨(some 33), .p .move, [.tmp 32], none⟩,
    ⟨(some 34), .p .move, [.tmp 3], some (33, false)⟩,
    ⟨(some 35), .p (.bin .lss), [.tmp 34, .lit (.int .i64 0)], some (33, false)⟩,
    ⟨(some 36), .p .pick, [.tmp 33, .lit (.bool true), .tmp 35], none⟩,
    ⟨(some 37), .p .move, [.tmp 36], none⟩,
    ⟨(some 38), .p .move, [.tmp 3], some (37, false)⟩,
    ⟨(some 39), .p .move, [.tmp 1], some (37, false)⟩,
    ⟨(some 40), .p (.bin .gtr), [.tmp 38, .tmp 39], some (37, false)⟩,
    ⟨(some 41), .p .pick, [.tmp 37, .lit (.bool true), .tmp 40], none⟩,
    ⟨(some 42), .p .move, [.tmp 41], none⟩,
    ⟨(some 43), .p .move, [.tmp 3], some (42, false)⟩,
    ⟨(some 44), .p .move, [.tmp 2], some (42, false)⟩,
    ⟨(some 45), .p .move, [.tmp 1], some (42, false)⟩,
    ⟨(some 46), .p .move, [.tmp 2], some (42, false)⟩,
    ⟨(some 47), .p (.bin .sub), [.tmp 45, .tmp 46], some (42, false)⟩,
    ⟨(some 48), .p (.bin .mul), [.tmp 44, .tmp 47], some (42, false)⟩,
    ⟨(some 49), .p (.bin .geq), [.tmp 43, .tmp 48], some (42, false)⟩,
    ⟨(some 50), .p .pick, [.tmp 42, .lit (.bool true), .tmp 49], none⟩,
    ⟨(some 51), .p .move, [.tmp 50], none⟩,
    ⟨(some 52), .h (.call 7), [], some (51, false)⟩,
    ⟨(some 53), .p .not, [.tmp 52], some (51, false)⟩,
    ⟨(some 54), .p .pick, [.tmp 51, .lit (.bool true), .tmp 53], none⟩])
  (.cond (.tmp 54) (.seq (.reg [⟨(some 55), .h (.call 7), [], none⟩,
    ⟨(some 10), .p .move, [.tmp 55], none⟩])
  .ret)
  .skip))
  (.seq (.reg [⟨(some 56), .p (.build [(.int .u64 0), (.int .u64 0)] [(0, 1), (1, 1)]), [.lit (.int .u64 10), .lit (.int .u64 20)], none⟩,
    ⟨(some 57), .p (.build [(.int .u64 0), (.int .u64 0), (.int .i64 0), (.int .i64 0)] [(0, 2), (2, 1)]), [.tmp 56, .lit (.int .i64 1)], none⟩,
    ⟨(some 58), .p (.build [(.int .u64 0), (.int .u64 0), (.int .i64 0), (.int .i64 0)] [(2, 1)]), [.lit (.int .i64 2)], none⟩,
    ⟨(some 59), .p (.build [(.int .i64 0), (.int .i64 0), (.int .u64 0), (.int .u64 0), (.int .i64 0), (.int .i64 0), (.int .u64 0), (.int .u64 0), (.int .i64 0), (.int .i64 0)] [(0, 1), (1, 1), (2, 4), (6, 4)]), [.lit (.int .i64 1), .lit (.int .i64 1), .tmp 57, .tmp 58], none⟩,
    ⟨(some 11), .a (.alloc [(.int .i64 0), (.int .i64 0), (.int .u64 0), (.int .u64 0), (.int .i64 0), (.int .i64 0), (.int .u64 0), (.int .u64 0), (.int .i64 0), (.int .i64 0)]), [], none⟩,
    ⟨none, .h (.store 10), [.tmp 11, .tmp 59], none⟩])
  (.seq (.reg [⟨(some 61), .r (.load (some 10)), [.tmp 11], none⟩,
    ⟨(some 62), .p .move, [.tmp 0], none⟩,
    ⟨(some 63), .h (.call 8), [.tmp 61, .lit (.int .i64 3), .tmp 62], none⟩,
    ⟨(some 60), .p .move, [.tmp 63], none⟩,
    ⟨(some 64), .p (.extract 0), [.tmp 60], none⟩,
    ⟨(some 65), .p (.extract 1), [.tmp 60], none⟩,
    ⟨(some 12), .p .move, [.tmp 64], none⟩,
    ⟨(some 13), .p .move, [.tmp 65], none⟩])
  (.seq (.seq (.reg [⟨(some 66), .p .move, [.tmp 12], none⟩,
    ⟨(some 67), .p (.eq false .ptr), [.tmp 66, .lit .nilptr], none⟩,
    ⟨(some 68), .p .move, [.tmp 67], none⟩,
    ⟨(some 69), .p .move, [.tmp 13], some (68, false)⟩,
    ⟨(some 70), .p .lenSl, [.tmp 69], some (68, false)⟩,
    ⟨(some 71), .p (.bin .neq), [.tmp 70, .lit (.int .i64 1)], some (68, false)⟩,
    ⟨(some 72), .p .pick, [.tmp 68, .lit (.bool true), .tmp 71], none⟩])
  (.cond (.tmp 72) (.seq (.reg [⟨(some 10), .p .move, [.lit (.bool false)], none⟩])
  .ret)
  .skip))
  (.seq (.reg [⟨(some 74), .p .move, [.tmp 12], none⟩,
    ⟨(some 75), .p .move, [.tmp 0], none⟩,
    ⟨(some 76), .p .move, [.tmp 1], none⟩,
    ⟨(some 77), .p .move, [.tmp 2], none⟩,
    ⟨(some 78), .p (.build [(.int .u64 0), (.int .u64 0)] [(0, 1), (1, 1)]), [.lit (.int .u64 50), .lit (.int .u64 60)], none⟩,
    ⟨(some 79), .p (.build [(.int .i64 0), (.int .i64 0), (.int .i64 0), (.int .i64 0), (.int .i64 0), (.str []), (.str []), (.str []), (.int .i64 0), (.int .i64 0), (.str []), .nilslice, (.bool false), (.str []), (.int .i64 0), (.int .u64 0), (.int .u64 0), (.int .i64 0), .nilslice, (.int .i64 0), (.int .i64 0)] [(0, 1), (1, 1), (2, 1), (3, 1), (19, 1), (17, 1), (20, 1), (15, 2)]), [.lit (.int .i64 4), .lit (.int .i64 3), .lit (.int .i64 1), .tmp 75, .tmp 76, .tmp 77, .lit (.int .i64 1), .tmp 78], none⟩,
    ⟨(some 80), .r (.load (some 10)), [.tmp 11], none⟩,
    ⟨(some 81), .h (.call 9), [.tmp 74, .tmp 79, .tmp 80], none⟩,
    ⟨(some 73), .p .move, [.tmp 81], none⟩,
    ⟨(some 82), .p (.extract 0), [.tmp 73], none⟩,
    ⟨(some 83), .p (.extract 1), [.tmp 73], none⟩,
    ⟨(some 13), .p .move, [.tmp 82], none⟩])
  (.seq (.seq (.reg [⟨(some 84), .p .move, [.tmp 13], none⟩,
    ⟨(some 85), .p .lenSl, [.tmp 84], none⟩,
    ⟨(some 86), .p (.bin .neq), [.tmp 85, .lit (.int .i64 1)], none⟩,
    ⟨(some 87), .p .move, [.tmp 86], none⟩,
    ⟨(some 88), .p .move, [.tmp 13], some (87, false)⟩,
    ⟨(some 89), .p (.indexAddr 21), [.tmp 88, .lit (.int .i64 0)], some (87, false)⟩,
    ⟨(some 90), .p (.fieldAddr 0), [.tmp 89], some (87, false)⟩,
    ⟨(some 91), .r (.load none), [.tmp 90], some (87, false)⟩,
    ⟨(some 92), .p (.bin .neq), [.tmp 91, .lit (.int .i64 3)], some (87, false)⟩,
    ⟨(some 93), .p .pick, [.tmp 87, .lit (.bool true), .tmp 92], none⟩,
    ⟨(some 94), .p .move, [.tmp 93], none⟩,
    ⟨(some 95), .p .move, [.tmp 13], some (94, false)⟩,
    ⟨(some 96), .p (.indexAddr 21), [.tmp 95, .lit (.int .i64 0)], some (94, false)⟩,
    ⟨(some 97), .p (.fieldAddr 2), [.tmp 96], some (94, false)⟩,
    ⟨(some 98), .r (.load none), [.tmp 97], some (94, false)⟩,
    ⟨(some 99), .p (.bin .neq), [.tmp 98, .lit (.int .i64 2)], some (94, false)⟩,
    ⟨(some 100), .p .pick, [.tmp 94, .lit (.bool true), .tmp 99], none⟩,
    ⟨(some 101), .p .move, [.tmp 100], none⟩,
    ⟨(some 102), .p .move, [.tmp 12], some (101, false)⟩,
    ⟨(some 103), .h (.call 10), [.tmp 102], some (101, false)⟩,
    ⟨(some 104), .p (.bin .neq), [.tmp 103, .lit (.int .i64 2)], some (101, false)⟩,
    ⟨(some 105), .p .pick, [.tmp 101, .lit (.bool true), .tmp 104], none⟩])
  (.cond (.tmp 105) (.seq (.reg [⟨(some 10), .p .move, [.lit (.bool false)], none⟩])
  .ret)
  .skip))
  (.seq (.reg [⟨(some 107), .p .move, [.tmp 12], none⟩,
    ⟨(some 108), .p .move, [.tmp 0], none⟩,
    ⟨(some 109), .p .move, [.tmp 3], none⟩,
    ⟨(some 110), .p (.build [(.int .u64 0), (.int .u64 0)] [(0, 1), (1, 1)]), [.lit (.int .u64 20), .lit (.int .u64 30)], none⟩,
    ⟨(some 111), .p (.build [(.int .i64 0), (.int .i64 0), (.int .i64 0), (.int .i64 0), (.int .i64 0), (.str []), (.str []), (.str []), (.int .i64 0), (.int .i64 0), (.str []), .nilslice, (.bool false), (.str []), (.int .i64 0), (.int .u64 0), (.int .u64 0), (.int .i64 0), .nilslice, (.int .i64 0), (.int .i64 0)] [(0, 1), (1, 1), (2, 1), (3, 1), (19, 1), (20, 1), (15, 2)]), [.lit (.int .i64 4), .lit (.int .i64 2), .lit (.int .i64 1), .tmp 108, .tmp 109, .lit (.int .i64 1), .tmp 110], none⟩,
    ⟨(some 112), .r (.load (some 10)), [.tmp 11], none⟩,
    ⟨(some 113), .h (.call 9), [.tmp 107, .tmp 111, .tmp 112], none⟩,
    ⟨(some 106), .p .move, [.tmp 113], none⟩,
    ⟨(some 114), .p (.extract 0), [.tmp 106], none⟩,
    ⟨(some 115), .p (.extract 1), [.tmp 106], none⟩,
    ⟨(some 13), .p .move, [.tmp 114], none⟩])
  (.seq (.seq (.reg [⟨(some 116), .p .move, [.tmp 13], none⟩,
    ⟨(some 117), .p .lenSl, [.tmp 116], none⟩,
    ⟨(some 118), .p (.bin .neq), [.tmp 117, .lit (.int .i64 1)], none⟩,
    ⟨(some 119), .p .move, [.tmp 118], none⟩,
    ⟨(some 120), .p .move, [.tmp 13], some (119, false)⟩,
    ⟨(some 121), .p (.indexAddr 21), [.tmp 120, .lit (.int .i64 0)], some (119, false)⟩,
    ⟨(some 122), .p (.fieldAddr 0), [.tmp 121], some (119, false)⟩,
    ⟨(some 123), .r (.load none), [.tmp 122], some (119, false)⟩,
    ⟨(some 124), .p (.bin .neq), [.tmp 123, .lit (.int .i64 5)], some (119, false)⟩,
    ⟨(some 125), .p .pick, [.tmp 119, .lit (.bool true), .tmp 124], none⟩,
    ⟨(some 126), .p .move, [.tmp 125], none⟩,
    ⟨(some 127), .p .move, [.tmp 13], some (126, false)⟩,
    ⟨(some 128), .p (.indexAddr 21), [.tmp 127, .lit (.int .i64 0)], some (126, false)⟩,
    ⟨(some 129), .p (.fieldAddr 2), [.tmp 128], some (126, false)⟩,
    ⟨(some 130), .r (.load none), [.tmp 129], some (126, false)⟩,
    ⟨(some 131), .p (.bin .neq), [.tmp 130, .lit (.int .i64 3)], some (126, false)⟩,
    ⟨(some 132), .p .pick, [.tmp 126, .lit (.bool true), .tmp 131], none⟩,
    ⟨(some 133), .p .move, [.tmp 132], none⟩,
    ⟨(some 134), .p .move, [.tmp 12], some (133, false)⟩,
    ⟨(some 135), .h (.call 11), [.tmp 134], some (133, false)⟩,
    ⟨(some 136), .p (.bin .neq), [.tmp 135, .lit (.int .i64 3)], some (133, false)⟩,
    ⟨(some 137), .p .pick, [.tmp 133, .lit (.bool true), .tmp 136], none⟩])
  (.cond (.tmp 137) (.seq (.reg [⟨(some 10), .p .move, [.lit (.bool false)], none⟩])
  .ret)
  .skip))
  (.seq (.reg [⟨(some 139), .p .move, [.tmp 12], none⟩,
    ⟨(some 140), .p .move, [.tmp 0], none⟩,
    ⟨(some 141), .p (.build [(.int .i64 0), (.int .i64 0), (.int .i64 0), (.int .i64 0), (.int .i64 0), (.str []), (.str []), (.str []), (.int .i64 0), (.int .i64 0), (.str []), .nilslice, (.bool false), (.str []), (.int .i64 0), (.int .u64 0), (.int .u64 0), (.int .i64 0), .nilslice, (.int .i64 0), (.int .i64 0)] [(0, 1), (1, 1), (2, 1), (3, 1), (19, 1)]), [.lit (.int .i64 6), .lit (.int .i64 3), .lit (.int .i64 1), .tmp 140, .lit (.int .i64 1)], none⟩,
    ⟨(some 142), .r (.load (some 10)), [.tmp 11], none⟩,
    ⟨(some 143), .h (.call 9), [.tmp 139, .tmp 141, .tmp 142], none⟩,
    ⟨(some 138), .p .move, [.tmp 143], none⟩,
    ⟨(some 144), .p (.extract 0), [.tmp 138], none⟩,
    ⟨(some 145), .p (.extract 1), [.tmp 138], none⟩,
    ⟨(some 13), .p .move, [.tmp 144], none⟩])
  (.seq (.seq (.reg [⟨(some 146), .p .move, [.tmp 13], none⟩,
    ⟨(some 147), .p .lenSl, [.tmp 146], none⟩,
    ⟨(some 148), .p (.bin .neq), [.tmp 147, .lit (.int .i64 1)], none⟩,
    ⟨(some 149), .p .move, [.tmp 148], none⟩,
    ⟨(some 150), .p .move, [.tmp 13], some (149, false)⟩,
    ⟨(some 151), .p (.indexAddr 21), [.tmp 150, .lit (.int .i64 0)], some (149, false)⟩,
    ⟨(some 152), .p (.fieldAddr 0), [.tmp 151], some (149, false)⟩,
    ⟨(some 153), .r (.load none), [.tmp 152], some (149, false)⟩,
    ⟨(some 154), .p (.bin .neq), [.tmp 153, .lit (.int .i64 5)], some (149, false)⟩,
    ⟨(some 155), .p .pick, [.tmp 149, .lit (.bool true), .tmp 154], none⟩,
    ⟨(some 156), .p .move, [.tmp 155], none⟩,
    ⟨(some 157), .p .move, [.tmp 13], some (156, false)⟩,
    ⟨(some 158), .p (.indexAddr 21), [.tmp 157, .lit (.int .i64 0)], some (156, false)⟩,
    ⟨(some 159), .p (.fieldAddr 2), [.tmp 158], some (156, false)⟩,
    ⟨(some 160), .r (.load none), [.tmp 159], some (156, false)⟩,
    ⟨(some 161), .p (.bin .neq), [.tmp 160, .lit (.int .i64 2)], some (156, false)⟩,
    ⟨(some 162), .p .pick, [.tmp 156, .lit (.bool true), .tmp 161], none⟩])
  (.cond (.tmp 162) (.seq (.reg [⟨(some 10), .p .move, [.lit (.bool false)], none⟩])
  .ret)
  .skip))
  (.seq (.reg [⟨(some 164), .p .move, [.tmp 12], none⟩,
    ⟨(some 165), .p .move, [.tmp 0], none⟩,
    ⟨(some 166), .p (.build [(.int .i64 0), (.int .i64 0), (.int .i64 0), (.int .i64 0), (.int .i64 0), (.str []), (.str []), (.str []), (.int .i64 0), (.int .i64 0), (.str []), .nilslice, (.bool false), (.str []), (.int .i64 0), (.int .u64 0), (.int .u64 0), (.int .i64 0), .nilslice, (.int .i64 0), (.int .i64 0)] [(0, 1), (1, 1), (2, 1), (3, 1), (19, 1)]), [.lit (.int .i64 6), .lit (.int .i64 2), .lit (.int .i64 1), .tmp 165, .lit (.int .i64 1)], none⟩,
    ⟨(some 167), .r (.load (some 10)), [.tmp 11], none⟩,
    ⟨(some 168), .h (.call 9), [.tmp 164, .tmp 166, .tmp 167], none⟩,
    ⟨(some 163), .p .move, [.tmp 168], none⟩,
    ⟨(some 169), .p (.extract 0), [.tmp 163], none⟩,
    ⟨(some 170), .p (.extract 1), [.tmp 163], none⟩,
    ⟨(some 13), .p .move, [.tmp 169], none⟩,
    ⟨(some 14), .p .move, [.tmp 170], none⟩])
  (.seq (.reg [⟨(some 172), .p .move, [.tmp 12], none⟩,
    ⟨(some 173), .h (.call 12), [.tmp 172], none⟩,
    ⟨(some 171), .p .move, [.tmp 173], none⟩,
    ⟨(some 174), .p (.extract 0), [.tmp 171], none⟩,
    ⟨(some 175), .p (.extract 1), [.tmp 171], none⟩,
    ⟨(some 176), .p (.extract 2), [.tmp 171], none⟩,
    ⟨(some 15), .a (.alloc [(.int .u64 0), (.int .u64 0)]), [], none⟩,
    ⟨none, .h (.store 2), [.tmp 15, .tmp 174], none⟩,
    ⟨(some 16), .p .move, [.tmp 175], none⟩,
    ⟨(some 17), .p .move, [.tmp 176], none⟩])
  (.seq (.seq (.reg [⟨(some 177), .p .move, [.tmp 13], none⟩,
    ⟨(some 178), .p .lenSl, [.tmp 177], none⟩,
    ⟨(some 179), .p (.bin .neq), [.tmp 178, .lit (.int .i64 0)], none⟩,
    ⟨(some 180), .p .move, [.tmp 179], none⟩,
    ⟨(some 181), .p .move, [.tmp 14], some (180, false)⟩,
    ⟨(some 182), .p .pick, [.tmp 180, .lit (.bool true), .tmp 181], none⟩,
    ⟨(some 183), .p .move, [.tmp 182], none⟩,
    ⟨(some 184), .p .move, [.tmp 17], some (183, false)⟩,
    ⟨(some 185), .p .not, [.tmp 184], some (183, false)⟩,
    ⟨(some 186), .p .pick, [.tmp 183, .lit (.bool true), .tmp 185], none⟩,
    ⟨(some 187), .p .move, [.tmp 186], none⟩,
    ⟨(some 188), .p .move, [.tmp 16], some (187, false)⟩,
    ⟨(some 189), .p (.bin .neq), [.tmp 188, .lit (.int .i64 2)], some (187, false)⟩,
    ⟨(some 190), .p .pick, [.tmp 187, .lit (.bool true), .tmp 189], none⟩,
    ⟨(some 191), .p .move, [.tmp 190], none⟩,
    ⟨(some 192), .r (.load (some 2)), [.tmp 15], some (191, false)⟩,
    ⟨(some 193), .p (.build [(.int .u64 0), (.int .u64 0)] [(0, 1), (1, 1)]), [.lit (.int .u64 10), .lit (.int .u64 20)], some (191, false)⟩,
    ⟨(some 194), .p (.eq true (.agg [.int, .int])), [.tmp 192, .tmp 193], some (191, false)⟩,
    ⟨(some 195), .p .pick, [.tmp 191, .lit (.bool true), .tmp 194], none⟩])
  (.cond (.tmp 195) (.seq (.reg [⟨(some 10), .p .move, [.lit (.bool false)], none⟩])
  .ret)
  .skip))
  (.seq (.reg [⟨(some 197), .p .move, [.tmp 12], none⟩,
    ⟨(some 198), .p .move, [.tmp 4], none⟩,
    ⟨(some 199), .h (.call 13), [.tmp 197, .tmp 198], none⟩,
    ⟨(some 196), .p .move, [.tmp 199], none⟩,
    ⟨(some 200), .p (.extract 0), [.tmp 196], none⟩,
    ⟨(some 201), .p (.extract 1), [.tmp 196], none⟩,
    ⟨(some 13), .p .move, [.tmp 200], none⟩,
    ⟨(some 14), .p .move, [.tmp 201], none⟩])
  (.seq (.seq (.reg [⟨(some 202), .p .move, [.tmp 4], none⟩,
    ⟨(some 203), .p .not, [.tmp 202], none⟩])
  (.cond (.tmp 203) (.seq (.reg [⟨(some 204), .p .move, [.tmp 14], none⟩,
    ⟨(some 205), .p .move, [.tmp 204], none⟩,
    ⟨(some 206), .p .move, [.tmp 13], some (205, true)⟩,
    ⟨(some 207), .p .lenSl, [.tmp 206], some (205, true)⟩,
    ⟨(some 208), .p (.bin .eql), [.tmp 207, .lit (.int .i64 2)], some (205, true)⟩,
    ⟨(some 209), .p .pick, [.tmp 205, .tmp 208, .lit (.bool false)], none⟩,
    ⟨(some 210), .p .move, [.tmp 209], none⟩,
    ⟨(some 211), .p .move, [.tmp 13], some (210, true)⟩,
    ⟨(some 212), .p (.indexAddr 21), [.tmp 211, .lit (.int .i64 0)], some (210, true)⟩,
    ⟨(some 213), .p (.fieldAddr 0), [.tmp 212], some (210, true)⟩,
    ⟨(some 214), .r (.load none), [.tmp 213], some (210, true)⟩,
    ⟨(some 215), .p (.bin .eql), [.tmp 214, .lit (.int .i64 7)], some (210, true)⟩,
    ⟨(some 216), .p .pick, [.tmp 210, .tmp 215, .lit (.bool false)], none⟩,
    ⟨(some 217), .p .move, [.tmp 216], none⟩,
    ⟨(some 218), .p .move, [.tmp 13], some (217, true)⟩,
    ⟨(some 219), .p (.indexAddr 21), [.tmp 218, .lit (.int .i64 1)], some (217, true)⟩,
    ⟨(some 220), .p (.fieldAddr 0), [.tmp 219], some (217, true)⟩,
    ⟨(some 221), .r (.load none), [.tmp 220], some (217, true)⟩,
    ⟨(some 222), .p (.bin .eql), [.tmp 221, .lit (.int .i64 7)], some (217, true)⟩,
    ⟨(some 223), .p .pick, [.tmp 217, .tmp 222, .lit (.bool false)], none⟩,
    ⟨(some 10), .p .move, [.tmp 223], none⟩])
  .ret)
  .skip))
  (.seq (.seq (.reg [⟨(some 224), .p .move, [.tmp 14], none⟩,
    ⟨(some 225), .p .move, [.tmp 224], none⟩,
    ⟨(some 226), .p .move, [.tmp 13], some (225, false)⟩,
    ⟨(some 227), .p .lenSl, [.tmp 226], some (225, false)⟩,
    ⟨(some 228), .p (.bin .neq), [.tmp 227, .lit (.int .i64 1)], some (225, false)⟩,
    ⟨(some 229), .p .pick, [.tmp 225, .lit (.bool true), .tmp 228], none⟩,
    ⟨(some 230), .p .move, [.tmp 229], none⟩,
    ⟨(some 231), .p .move, [.tmp 13], some (230, false)⟩,
    ⟨(some 232), .p (.indexAddr 21), [.tmp 231, .lit (.int .i64 0)], some (230, false)⟩,
    ⟨(some 233), .p (.fieldAddr 0), [.tmp 232], some (230, false)⟩,
    ⟨(some 234), .r (.load none), [.tmp 233], some (230, false)⟩,
    ⟨(some 235), .p (.bin .neq), [.tmp 234, .lit (.int .i64 8)], some (230, false)⟩,
    ⟨(some 236), .p .pick, [.tmp 230, .lit (.bool true), .tmp 235], none⟩,
    ⟨(some 237), .p .move, [.tmp 236], none⟩,
    ⟨(some 238), .p .move, [.tmp 13], some (237, false)⟩,
    ⟨(some 239), .p (.indexAddr 21), [.tmp 238, .lit (.int .i64 0)], some (237, false)⟩,
    ⟨(some 240), .p (.fieldAddr 2), [.tmp 239], some (237, false)⟩,
    ⟨(some 241), .r (.load none), [.tmp 240], some (237, false)⟩,
    ⟨(some 242), .p (.bin .neq), [.tmp 241, .lit (.int .i64 3)], some (237, false)⟩,
    ⟨(some 243), .p .pick, [.tmp 237, .lit (.bool true), .tmp 242], none⟩,
    ⟨(some 244), .p .move, [.tmp 243], none⟩,
    ⟨(some 245), .p .move, [.tmp 13], some (244, false)⟩,
    ⟨(some 246), .p (.indexAddr 21), [.tmp 245, .lit (.int .i64 0)], some (244, false)⟩,
    ⟨(some 247), .p (.fieldAddr 19), [.tmp 246], some (244, false)⟩,
    ⟨(some 248), .r (.load none), [.tmp 247], some (244, false)⟩,
    ⟨(some 249), .p (.bin .neq), [.tmp 248, .lit (.int .i64 0)], some (244, false)⟩,
    ⟨(some 250), .p .pick, [.tmp 244, .lit (.bool true), .tmp 249], none⟩,
    ⟨(some 251), .p .move, [.tmp 250], none⟩,
    ⟨(some 252), .p .move, [.tmp 13], some (251, false)⟩,
    ⟨(some 253), .p (.indexAddr 21), [.tmp 252, .lit (.int .i64 0)], some (251, false)⟩,
    ⟨(some 254), .p (.fieldAddr 20), [.tmp 253], some (251, false)⟩,
    ⟨(some 255), .r (.load none), [.tmp 254], some (251, false)⟩,
    ⟨(some 256), .p (.bin .neq), [.tmp 255, .lit (.int .i64 1)], some (251, false)⟩,
    ⟨(some 257), .p .pick, [.tmp 251, .lit (.bool true), .tmp 256], none⟩,
    ⟨(some 258), .p .move, [.tmp 257], none⟩,
    ⟨(some 259), .p .move, [.tmp 13], some (258, false)⟩,
    ⟨(some 260), .p (.indexAddr 21), [.tmp 259, .lit (.int .i64 0)], some (258, false)⟩,
    ⟨(some 261), .p (.fieldAddr 17), [.tmp 260], some (258, false)⟩,
    ⟨(some 262), .r (.load none), [.tmp 261], some (258, false)⟩,
    ⟨(some 263), .p (.bin .neq), [.tmp 262, .lit (.int .i64 3)], some (258, false)⟩,
    ⟨(some 264), .p .pick, [.tmp 258, .lit (.bool true), .tmp 263], none⟩])
  (.cond (.tmp 264) (.seq (.reg [⟨(some 10), .p .move, [.lit (.bool false)], none⟩])
  .ret)
  .skip))
  (.seq (.reg [⟨(some 266), .p .move, [.tmp 12], none⟩,
    ⟨(some 267), .p .move, [.tmp 0], none⟩,
    ⟨(some 268), .p (.build [(.int .i64 0), (.int .i64 0), (.int .i64 0), (.int .i64 0), (.int .i64 0), (.str []), (.str []), (.str []), (.int .i64 0), (.int .i64 0), (.str []), .nilslice, (.bool false), (.str []), (.int .i64 0), (.int .u64 0), (.int .u64 0), (.int .i64 0), .nilslice, (.int .i64 0), (.int .i64 0)] [(0, 1), (1, 1), (2, 1), (3, 1)]), [.lit (.int .i64 9), .lit (.int .i64 3), .lit (.int .i64 1), .tmp 267], none⟩,
    ⟨(some 269), .r (.load (some 10)), [.tmp 11], none⟩,
    ⟨(some 270), .h (.call 9), [.tmp 266, .tmp 268, .tmp 269], none⟩,
    ⟨(some 265), .p .move, [.tmp 270], none⟩,
    ⟨(some 271), .p (.extract 0), [.tmp 265], none⟩,
    ⟨(some 272), .p (.extract 1), [.tmp 265], none⟩,
    ⟨(some 13), .p .move, [.tmp 271], none⟩,
    ⟨(some 14), .p .move, [.tmp 272], none⟩])
  (.seq (.reg [⟨(some 273), .p .move, [.tmp 14], none⟩,
    ⟨(some 274), .p .move, [.tmp 273], none⟩,
    ⟨(some 275), .p .move, [.tmp 13], some (274, true)⟩,
    ⟨(some 276), .p .lenSl, [.tmp 275], some (274, true)⟩,
    ⟨(some 277), .p (.bin .eql), [.tmp 276, .lit (.int .i64 2)], some (274, true)⟩,
    ⟨(some 278), .p .pick, [.tmp 274, .tmp 277, .lit (.bool false)], none⟩,
    ⟨(some 279), .p .move, [.tmp 278], none⟩,
    ⟨(some 280), .p .move, [.tmp 13], some (279, true)⟩,
    ⟨(some 281), .p (.indexAddr 21), [.tmp 280, .lit (.int .i64 0)], some (279, true)⟩,
    ⟨(some 282), .p (.fieldAddr 2), [.tmp 281], some (279, true)⟩,
    ⟨(some 283), .r (.load none), [.tmp 282], some (279, true)⟩,
    ⟨(some 284), .p (.bin .eql), [.tmp 283, .lit (.int .i64 3)], some (279, true)⟩,
    ⟨(some 285), .p .pick, [.tmp 279, .tmp 284, .lit (.bool false)], none⟩,
    ⟨(some 286), .p .move, [.tmp 285], none⟩,
    ⟨(some 287), .p .move, [.tmp 13], some (286, true)⟩,
    ⟨(some 288), .p (.indexAddr 21), [.tmp 287, .lit (.int .i64 1)], some (286, true)⟩,
    ⟨(some 289), .p (.fieldAddr 2), [.tmp 288], some (286, true)⟩,
    ⟨(some 290), .r (.load none), [.tmp 289], some (286, true)⟩,
    ⟨(some 291), .p (.bin .eql), [.tmp 290, .lit (.int .i64 2)], some (286, true)⟩,
    ⟨(some 292), .p .pick, [.tmp 286, .tmp 291, .lit (.bool false)], none⟩,
    ⟨(some 293), .p .move, [.tmp 292], none⟩,
    ⟨(some 294), .p .move, [.tmp 13], some (293, true)⟩,
    ⟨(some 295), .p (.indexAddr 21), [.tmp 294, .lit (.int .i64 0)], some (293, true)⟩,
    ⟨(some 296), .p (.fieldAddr 0), [.tmp 295], some (293, true)⟩,
    ⟨(some 297), .r (.load none), [.tmp 296], some (293, true)⟩,
    ⟨(some 298), .p (.bin .eql), [.tmp 297, .lit (.int .i64 7)], some (293, true)⟩,
    ⟨(some 299), .p .pick, [.tmp 293, .tmp 298, .lit (.bool false)], none⟩,
    ⟨(some 300), .p .move, [.tmp 299], none⟩,
    ⟨(some 301), .p .move, [.tmp 13], some (300, true)⟩,
    ⟨(some 302), .p (.indexAddr 21), [.tmp 301, .lit (.int .i64 1)], some (300, true)⟩,
    ⟨(some 303), .p (.fieldAddr 0), [.tmp 302], some (300, true)⟩,
    ⟨(some 304), .r (.load none), [.tmp 303], some (300, true)⟩,
    ⟨(some 305), .p (.bin .eql), [.tmp 304, .lit (.int .i64 7)], some (300, true)⟩,
    ⟨(some 306), .p .pick, [.tmp 300, .tmp 305, .lit (.bool false)], none⟩,
    ⟨(some 10), .p .move, [.tmp 306], none⟩])
  .ret))))))))))))))))))), [.tmp 10]⟩
theorem c6 : cFunc Go.Proofs.Try.prog false 5 Go.Proofs.Try.f6 = some sf6 := by kernel_rfl
def ss6 : List Sh := [(.int .i64), (.int .i64), (.int .i64), (.int .i64), .bool]
theorem cs6 : shsOf Go.Proofs.Try.prog 12 Go.Proofs.Try.f6.params.toList = some ss6 := by kernel_rfl

/-- rosary/rosarylaw19.alive -/
def sf7 : SFunc := ⟨0, 68, (.seq (.reg [⟨(some 0), .p .move, [.lit (.bool false)], none⟩])
  (.seq (.reg [⟨(some 6), .p (.build [(.int .u64 0), (.int .u64 0)] [(0, 1), (1, 1)]), [.lit (.int .u64 0), .lit (.int .u64 5)], none⟩,
    ⟨(some 7), .p (.build [(.int .u64 0), (.int .u64 0), (.int .i64 0), (.int .i64 0)] [(0, 2), (2, 1)]), [.tmp 6, .lit (.int .i64 1)], none⟩,
    ⟨(some 8), .p (.build [(.int .u64 0), (.int .u64 0), (.int .i64 0), (.int .i64 0)] [(2, 1)]), [.lit (.int .i64 2)], none⟩,
    ⟨(some 9), .p (.build [(.int .i64 0), (.int .i64 0), (.int .u64 0), (.int .u64 0), (.int .i64 0), (.int .i64 0), (.int .u64 0), (.int .u64 0), (.int .i64 0), (.int .i64 0)] [(0, 1), (1, 1), (2, 4), (6, 4)]), [.lit (.int .i64 1), .lit (.int .i64 1), .tmp 7, .tmp 8], none⟩,
    ⟨(some 1), .a (.alloc [(.int .i64 0), (.int .i64 0), (.int .u64 0), (.int .u64 0), (.int .i64 0), (.int .i64 0), (.int .u64 0), (.int .u64 0), (.int .i64 0), (.int .i64 0)]), [], none⟩,
    ⟨none, .h (.store 10), [.tmp 1, .tmp 9], none⟩])
  (.seq (.reg [⟨(some 11), .r (.load (some 10)), [.tmp 1], none⟩,
    ⟨(some 12), .h (.call 8), [.tmp 11, .lit (.int .i64 2), .lit (.int .i64 7)], none⟩,
    ⟨(some 10), .p .move, [.tmp 12], none⟩,
    ⟨(some 13), .p (.extract 0), [.tmp 10], none⟩,
    ⟨(some 14), .p (.extract 1), [.tmp 10], none⟩,
    ⟨(some 2), .p .move, [.tmp 13], none⟩,
    ⟨(some 3), .p .move, [.tmp 14], none⟩])
  (.seq (.seq (.reg [⟨(some 15), .p .move, [.tmp 2], none⟩,
    ⟨(some 16), .p (.eq false .ptr), [.tmp 15, .lit .nilptr], none⟩,
    ⟨(some 17), .p .move, [.tmp 16], none⟩,
    ⟨(some 18), .p .move, [.tmp 3], some (17, false)⟩,
    ⟨(some 19), .p .lenSl, [.tmp 18], some (17, false)⟩,
    ⟨(some 20), .p (.bin .neq), [.tmp 19, .lit (.int .i64 1)], some (17, false)⟩,
    ⟨(some 21), .p .pick, [.tmp 17, .lit (.bool true), .tmp 20], none⟩,
    ⟨(some 22), .p .move, [.tmp 21], none⟩,
    ⟨(some 23), .p .move, [.tmp 3], some (22, false)⟩,
    ⟨(some 24), .p (.indexAddr 21), [.tmp 23, .lit (.int .i64 0)], some (22, false)⟩,
    ⟨(some 25), .p (.fieldAddr 0), [.tmp 24], some (22, false)⟩,
    ⟨(some 26), .r (.load none), [.tmp 25], some (22, false)⟩,
    ⟨(some 27), .p (.bin .neq), [.tmp 26, .lit (.int .i64 3)], some (22, false)⟩,
    ⟨(some 28), .p .pick, [.tmp 22, .lit (.bool true), .tmp 27], none⟩,
    ⟨(some 29), .p .move, [.tmp 28], none⟩,
    ⟨(some 30), .p .move, [.tmp 3], some (29, false)⟩,
    ⟨(some 31), .p (.indexAddr 21), [.tmp 30, .lit (.int .i64 0)], some (29, false)⟩,
    ⟨(some 32), .p (.fieldAddr 2), [.tmp 31], some (29, false)⟩,
    ⟨(some 33), .r (.load none), [.tmp 32], some (29, false)⟩,
    ⟨(some 34), .p (.bin .neq), [.tmp 33, .lit (.int .i64 2)], some (29, false)⟩,
    ⟨(some 35), .p .pick, [.tmp 29, .lit (.bool true), .tmp 34], none⟩])
  (.cond (.tmp 35) (.seq (.reg [⟨(some 0), .p .move, [.lit (.bool false)], none⟩])
  .ret)
  .skip))
  (.seq (.reg [⟨(some 37), .p .move, [.tmp 2], none⟩,
    ⟨(some 38), .p (.build [(.int .u64 0), (.int .u64 0)] [(0, 1), (1, 1)]), [.lit (.int .u64 5), .lit (.int .u64 9)], none⟩,
    ⟨(some 39), .p (.build [(.int .i64 0), (.int .i64 0), (.int .i64 0), (.int .i64 0), (.int .i64 0), (.str []), (.str []), (.str []), (.int .i64 0), (.int .i64 0), (.str []), .nilslice, (.bool false), (.str []), (.int .i64 0), (.int .u64 0), (.int .u64 0), (.int .i64 0), .nilslice, (.int .i64 0), (.int .i64 0)] [(0, 1), (1, 1), (2, 1), (3, 1), (19, 1), (17, 1), (20, 1), (15, 2)]), [.lit (.int .i64 4), .lit (.int .i64 2), .lit (.int .i64 1), .lit (.int .i64 7), .lit (.int .i64 10), .lit (.int .i64 5), .lit (.int .i64 1), .tmp 38], none⟩,
    ⟨(some 40), .r (.load (some 10)), [.tmp 1], none⟩,
    ⟨(some 41), .h (.call 9), [.tmp 37, .tmp 39, .tmp 40], none⟩,
    ⟨(some 36), .p .move, [.tmp 41], none⟩,
    ⟨(some 42), .p (.extract 0), [.tmp 36], none⟩,
    ⟨(some 43), .p (.extract 1), [.tmp 36], none⟩,
    ⟨(some 4), .p .move, [.tmp 42], none⟩,
    ⟨(some 5), .p .move, [.tmp 43], none⟩])
  (.seq (.reg [⟨(some 44), .p .move, [.tmp 4], none⟩,
    ⟨(some 45), .p .lenSl, [.tmp 44], none⟩,
    ⟨(some 46), .p (.bin .eql), [.tmp 45, .lit (.int .i64 1)], none⟩,
    ⟨(some 47), .p .move, [.tmp 46], none⟩,
    ⟨(some 48), .p .move, [.tmp 4], some (47, true)⟩,
    ⟨(some 49), .p (.indexAddr 21), [.tmp 48, .lit (.int .i64 0)], some (47, true)⟩,
    ⟨(some 50), .p (.fieldAddr 0), [.tmp 49], some (47, true)⟩,
    ⟨(some 51), .r (.load none), [.tmp 50], some (47, true)⟩,
    ⟨(some 52), .p (.bin .eql), [.tmp 51, .lit (.int .i64 5)], some (47, true)⟩,
    ⟨(some 53), .p .pick, [.tmp 47, .tmp 52, .lit (.bool false)], none⟩,
    ⟨(some 54), .p .move, [.tmp 53], none⟩,
    ⟨(some 55), .p .move, [.tmp 5], some (54, true)⟩,
    ⟨(some 56), .p .not, [.tmp 55], some (54, true)⟩,
    ⟨(some 57), .p .pick, [.tmp 54, .tmp 56, .lit (.bool false)], none⟩,
    ⟨(some 58), .p .move, [.tmp 57], none⟩,
    ⟨(some 59), .p .move, [.tmp 2], some (58, true)⟩,
    ⟨(some 60), .h (.call 10), [.tmp 59], some (58, true)⟩,
    ⟨(some 61), .p (.bin .eql), [.tmp 60, .lit (.int .i64 3)], some (58, true)⟩,
    ⟨(some 62), .p .pick, [.tmp 58, .tmp 61, .lit (.bool false)], none⟩,
    ⟨(some 63), .p .move, [.tmp 62], none⟩,
    ⟨(some 64), .p .move, [.tmp 2], some (63, true)⟩,
    ⟨(some 65), .h (.call 11), [.tmp 64], some (63, true)⟩,
    ⟨(some 66), .p (.bin .eql), [.tmp 65, .lit (.int .i64 1)], some (63, true)⟩,
    ⟨(some 67), .p .pick, [.tmp 63, .tmp 66, .lit (.bool false)], none⟩,
    ⟨(some 0), .p .move, [.tmp 67], none⟩])
  .ret)))))), [.tmp 0]⟩
theorem c7 : cFunc Go.Proofs.Try.prog false 0 Go.Proofs.Try.f7 = some sf7 := by kernel_rfl
def ss7 : List Sh := []
theorem cs7 : shsOf Go.Proofs.Try.prog 12 Go.Proofs.Try.f7.params.toList = some ss7 := by kernel_rfl

/-- rosary/probe.Start -/
def sf8 : SFunc := ⟨3, 24, (.seq (.reg [⟨(some 3), .a .box, [.tmp 0], none⟩,
    ⟨(some 6), .p .move, [.lit .nilptr], none⟩,
    ⟨(some 7), .p .move, [.lit .nilslice], none⟩])
  (.seq (.seq (.reg [⟨(some 9), .p .move, [.tmp 1], none⟩,
    ⟨(some 10), .p (.fieldAddr 0), [.tmp 3], none⟩,
    ⟨(some 11), .r (.load none), [.tmp 10], none⟩,
    ⟨(some 12), .p (.bin .eql), [.tmp 9, .tmp 11], none⟩])
  (.cond (.tmp 12) (.seq (.reg [⟨(some 6), .p .move, [.lit .nilptr], none⟩,
    ⟨(some 7), .p .move, [.lit .nilslice], none⟩])
  .ret)
  .skip))
  (.seq (.reg [⟨(some 13), .p (.fieldAddr 0), [.tmp 3], none⟩,
    ⟨(some 14), .r (.load none), [.tmp 13], none⟩,
    ⟨(some 15), .p .move, [.tmp 1], none⟩,
    ⟨(some 16), .p .move, [.tmp 2], none⟩,
    ⟨(some 17), .p (.build [(.int .i64 0), (.int .i64 0), (.int .i64 0), (.int .i64 0), (.int .i64 0), (.int .i64 0), (.int .u64 0), (.int .u64 0), (.int .i64 0), (.int .i64 0), (.int .u64 0), (.int .u64 0)] [(0, 1), (1, 1), (3, 1), (4, 1)]), [.tmp 14, .tmp 15, .tmp 16, .lit (.int .i64 1)], none⟩,
    ⟨(some 18), .a .box, [.tmp 17], none⟩,
    ⟨(some 8), .p .move, [.tmp 18], none⟩])
  (.seq (.reg [⟨(some 19), .p .move, [.tmp 8], none⟩,
    ⟨(some 20), .p .move, [.tmp 8], none⟩,
    ⟨(some 21), .p .move, [.tmp 1], none⟩,
    ⟨(some 22), .h (.call 14), [.tmp 20, .lit (.int .i64 3), .tmp 21], none⟩,
    ⟨(some 23), .a (.buildSlice 21 1 [(.int .i64 0), (.int .i64 0), (.int .i64 0), (.int .i64 0), (.int .i64 0), (.str []), (.str []), (.str []), (.int .i64 0), (.int .i64 0), (.str []), .nilslice, (.bool false), (.str []), (.int .i64 0), (.int .u64 0), (.int .u64 0), (.int .i64 0), .nilslice, (.int .i64 0), (.int .i64 0)] [0]), [.tmp 22], none⟩,
    ⟨(some 6), .p .move, [.tmp 19], none⟩,
    ⟨(some 7), .p .move, [.tmp 23], none⟩])
  .ret)))), [.tmp 6, .tmp 7]⟩
theorem c8 : cFunc Go.Proofs.Try.prog false 3 Go.Proofs.Try.f8 = some sf8 := by kernel_rfl

/-- (*rosary/probe.Probe).Got -/
def sf9 : SFunc := ⟨3, 78, (.seq (.reg [⟨(some 4), .a .box, [.tmp 1], none⟩,
    ⟨(some 5), .a .box, [.tmp 2], none⟩,
    ⟨(some 6), .p .move, [.lit .nilslice], none⟩,
    ⟨(some 7), .p .move, [.lit (.bool false)], none⟩])
  (.scope (.seq (.seq (.reg [⟨(some 12), .p .move, [.tmp 0], none⟩,
    ⟨(some 13), .p (.eq false .ptr), [.tmp 12, .lit .nilptr], none⟩])
  (.cond (.tmp 13) (.seq (.reg [⟨(some 6), .p .move, [.lit .nilslice], none⟩,
    ⟨(some 7), .p .move, [.lit (.bool false)], none⟩])
  .ret)
  .skip))
  (.seq (.reg [⟨(some 15), .p .move, [.tmp 0], none⟩,
    ⟨(some 16), .h (.call 15), [.tmp 15], none⟩,
    ⟨(some 14), .p .move, [.tmp 16], none⟩,
    ⟨(some 17), .p (.extract 0), [.tmp 14], none⟩,
    ⟨(some 18), .p (.extract 1), [.tmp 14], none⟩,
    ⟨(some 19), .p (.extract 2), [.tmp 14], none⟩,
    ⟨(some 8), .p .move, [.tmp 17], none⟩,
    ⟨(some 9), .p .move, [.tmp 18], none⟩,
    ⟨(some 10), .p .move, [.tmp 19], none⟩])
  (.seq (.seq (.dreg [⟨[⟨(some 20), .p .move, [.tmp 10], none⟩,
    ⟨(some 21), .p .not, [.tmp 20], none⟩,
    ⟨(some 22), .p .move, [.tmp 21], none⟩,
    ⟨(some 23), .p (.fieldAddr 3), [.tmp 4], some (22, false)⟩,
    ⟨(some 24), .r (.load none), [.tmp 23], some (22, false)⟩,
    ⟨(some 25), .p .move, [.tmp 0], some (22, false)⟩,
    ⟨(some 26), .p .nilCheck, [.tmp 25], some (22, false)⟩,
    ⟨(some 27), .p (.fieldAddr 3), [.tmp 26], some (22, false)⟩,
    ⟨(some 28), .r (.load none), [.tmp 27], some (22, false)⟩,
    ⟨(some 29), .p (.bin .neq), [.tmp 24, .tmp 28], some (22, false)⟩,
    ⟨(some 30), .p .pick, [.tmp 22, .lit (.bool true), .tmp 29], none⟩,
    ⟨(some 31), .p .move, [.tmp 30], none⟩,
    ⟨(some 32), .p (.fieldAddr 1), [.tmp 4], some (31, false)⟩,
    ⟨(some 33), .r (.load none), [.tmp 32], some (31, false)⟩,
    ⟨(some 34), .p .move, [.tmp 8], some (31, false)⟩,
    ⟨(some 35), .p (.bin .neq), [.tmp 33, .tmp 34], some (31, false)⟩,
    ⟨(some 36), .p .pick, [.tmp 31, .lit (.bool true), .tmp 35], none⟩,
    ⟨(some 37), .p .move, [.tmp 36], none⟩,
    ⟨(some 38), .p (.fieldAddr 0), [.tmp 4], some (37, false)⟩,
    ⟨(some 39), .r (.load none), [.tmp 38], some (37, false)⟩,
    ⟨(some 40), .p .move, [.tmp 9], some (37, false)⟩,
    ⟨(some 41), .p (.bin .neq), [.tmp 39, .tmp 40], some (37, false)⟩,
    ⟨(some 42), .p .pick, [.tmp 37, .lit (.bool true), .tmp 41], none⟩], [], none⟩])
  (.cond (.tmp 42) (.seq (.reg [⟨(some 6), .p .move, [.lit .nilslice], none⟩,
    ⟨(some 7), .p .move, [.lit (.bool false)], none⟩])
  .ret)
  .skip))
  (.seq (.reg [⟨(some 11), .p .move, [.lit .nilslice], none⟩])
  (.seq .skip
  (.seq (.seq (.reg [⟨(some 43), .p .move, [.lit (.int .i64 0)], none⟩])
  (.block 0 (.loop [0, 4, 5, 11, 43] (.seq (.reg [⟨(some 44), .p (.bin .lss), [.tmp 43, .lit (.int .i64 1)], none⟩])
  (.seq (.cond (.tmp 44) .skip
  (.exit 0))
  (.seq (.block 1 (.seq (.reg [⟨(some 45), .p .move, [.tmp 0], none⟩,
    ⟨(some 46), .p .nilCheck, [.tmp 45], none⟩,
    ⟨(some 47), .p (.fieldAddr 4), [.tmp 46], none⟩,
    ⟨(some 48), .r (.load none), [.tmp 47], none⟩])
  (.block 2 (.seq (.reg [⟨(some 52), .p (.bin .eql), [.tmp 48, .lit (.int .i64 1)], none⟩,
    ⟨(some 51), .p .move, [.tmp 52], none⟩])
  (.cond (.tmp 51) (.reg [⟨(some 53), .p .move, [.tmp 0], none⟩,
    ⟨(some 54), .r (.load (some 21)), [.tmp 4], none⟩,
    ⟨(some 55), .r (.load (some 10)), [.tmp 5], none⟩,
    ⟨(some 56), .h (.call 16), [.tmp 53, .tmp 54, .tmp 55], none⟩,
    ⟨(some 11), .p .move, [.tmp 56], none⟩])
  (.seq (.reg [⟨(some 58), .p (.bin .eql), [.tmp 48, .lit (.int .i64 2)], none⟩,
    ⟨(some 57), .p .move, [.tmp 58], none⟩])
  (.cond (.tmp 57) (.reg [⟨(some 59), .p .move, [.tmp 0], none⟩,
    ⟨(some 60), .r (.load (some 10)), [.tmp 5], none⟩,
    ⟨(some 61), .p (.fieldAddr 19), [.tmp 4], none⟩,
    ⟨(some 62), .r (.load none), [.tmp 61], none⟩,
    ⟨(some 63), .h (.call 17), [.tmp 59, .tmp 60, .tmp 62], none⟩,
    ⟨(some 11), .p .move, [.tmp 63], none⟩])
  (.seq (.seq (.reg [⟨(some 65), .p (.bin .eql), [.tmp 48, .lit (.int .i64 3)], none⟩,
    ⟨(some 64), .p .move, [.tmp 65], none⟩])
  (.cond (.tmp 64) .skip
  (.reg [⟨(some 66), .p (.bin .eql), [.tmp 48, .lit (.int .i64 4)], none⟩,
    ⟨(some 64), .p .move, [.tmp 66], none⟩])))
  (.cond (.tmp 64) (.reg [⟨(some 67), .p .move, [.tmp 0], none⟩,
    ⟨(some 68), .r (.load (some 21)), [.tmp 4], none⟩,
    ⟨(some 69), .r (.load (some 10)), [.tmp 5], none⟩,
    ⟨(some 70), .h (.call 18), [.tmp 67, .tmp 68, .tmp 69], none⟩,
    ⟨(some 11), .p .move, [.tmp 70], none⟩])
  (.seq (.reg [⟨(some 49), .p .move, [.tmp 0], none⟩,
    ⟨(some 50), .h (.call 19), [.tmp 49], none⟩,
    ⟨(some 11), .p .move, [.tmp 50], none⟩])
  (.exit 0)))))))))))
  (.reg [⟨(some 71), .p (.bin .add), [.tmp 43, .lit (.int .i64 1)], none⟩,
    ⟨(some 43), .p .move, [.tmp 71], none⟩])))))))
  (.seq (.dreg [⟨[⟨(some 72), .p .move, [.tmp 11], none⟩,
    ⟨(some 73), .p .move, [.tmp 0], none⟩,
    ⟨(some 74), .p .nilCheck, [.tmp 73], none⟩,
    ⟨(some 75), .p (.fieldAddr 4), [.tmp 74], none⟩,
    ⟨(some 76), .r (.load none), [.tmp 75], none⟩,
    ⟨(some 77), .p (.bin .eql), [.tmp 76, .lit (.int .i64 7)], none⟩,
    ⟨(some 6), .p .move, [.tmp 72], none⟩,
    ⟨(some 7), .p .move, [.tmp 77], none⟩], [], none⟩])
  .ret))))))))), [.tmp 6, .tmp 7]⟩
theorem c9 : cFunc Go.Proofs.Try.prog false 3 Go.Proofs.Try.f9 = some sf9 := by kernel_rfl

/-- (*rosary/probe.Probe).Step -/
def sf10 : SFunc := ⟨1, 9, (.seq (.reg [⟨(some 2), .p .move, [.lit (.int .i64 0)], none⟩])
  (.seq (.seq (.reg [⟨(some 3), .p .move, [.tmp 0], none⟩,
    ⟨(some 4), .p (.eq false .ptr), [.tmp 3, .lit .nilptr], none⟩])
  (.cond (.tmp 4) (.seq (.reg [⟨(some 2), .p .move, [.lit (.int .i64 0)], none⟩])
  .ret)
  .skip))
  (.seq (.reg [⟨(some 5), .p .move, [.tmp 0], none⟩,
    ⟨(some 6), .p .nilCheck, [.tmp 5], none⟩,
    ⟨(some 7), .p (.fieldAddr 4), [.tmp 6], none⟩,
    ⟨(some 8), .r (.load none), [.tmp 7], none⟩,
    ⟨(some 2), .p .move, [.tmp 8], none⟩])
  .ret))), [.tmp 2]⟩
theorem c10 : cFunc Go.Proofs.Try.prog false 1 Go.Proofs.Try.f10 = some sf10 := by kernel_rfl

/-- (*rosary/probe.Probe).Plan -/
def sf11 : SFunc := ⟨1, 9, (.seq (.reg [⟨(some 2), .p .move, [.lit (.int .i64 0)], none⟩])
  (.seq (.seq (.reg [⟨(some 3), .p .move, [.tmp 0], none⟩,
    ⟨(some 4), .p (.eq false .ptr), [.tmp 3, .lit .nilptr], none⟩])
  (.cond (.tmp 4) (.seq (.reg [⟨(some 2), .p .move, [.lit (.int .i64 0)], none⟩])
  .ret)
  .skip))
  (.seq (.reg [⟨(some 5), .p .move, [.tmp 0], none⟩,
    ⟨(some 6), .p .nilCheck, [.tmp 5], none⟩,
    ⟨(some 7), .p (.fieldAddr 5), [.tmp 6], none⟩,
    ⟨(some 8), .r (.load none), [.tmp 7], none⟩,
    ⟨(some 2), .p .move, [.tmp 8], none⟩])
  .ret))), [.tmp 2]⟩
theorem c11 : cFunc Go.Proofs.Try.prog false 1 Go.Proofs.Try.f11 = some sf11 := by kernel_rfl

/-- (*rosary/probe.Probe).Leaves -/
def sf12 : SFunc := ⟨1, 23, (.seq (.reg [⟨(some 2), .a (.alloc [(.int .u64 0), (.int .u64 0)]), [], none⟩,
    ⟨(some 3), .p .move, [.lit (.int .i64 0)], none⟩,
    ⟨(some 4), .p .move, [.lit (.bool false)], none⟩])
  (.seq (.seq (.reg [⟨(some 5), .p .move, [.tmp 0], none⟩,
    ⟨(some 6), .p (.eq false .ptr), [.tmp 5, .lit .nilptr], none⟩,
    ⟨(some 7), .p .move, [.tmp 6], none⟩,
    ⟨(some 8), .p .move, [.tmp 0], some (7, false)⟩,
    ⟨(some 9), .p .nilCheck, [.tmp 8], some (7, false)⟩,
    ⟨(some 10), .p (.fieldAddr 4), [.tmp 9], some (7, false)⟩,
    ⟨(some 11), .r (.load none), [.tmp 10], some (7, false)⟩,
    ⟨(some 12), .p (.bin .neq), [.tmp 11, .lit (.int .i64 5)], some (7, false)⟩,
    ⟨(some 13), .p .pick, [.tmp 7, .lit (.bool true), .tmp 12], none⟩])
  (.cond (.tmp 13) (.seq (.reg [⟨(some 14), .p (.build [(.int .u64 0), (.int .u64 0)] []), [], none⟩,
    ⟨none, .h (.store 2), [.tmp 2, .tmp 14], none⟩,
    ⟨(some 3), .p .move, [.lit (.int .i64 0)], none⟩,
    ⟨(some 4), .p .move, [.lit (.bool false)], none⟩])
  .ret)
  .skip))
  (.seq (.dreg [⟨[⟨(some 15), .p .move, [.tmp 0], none⟩,
    ⟨(some 16), .p .nilCheck, [.tmp 15], none⟩,
    ⟨(some 17), .p (.fieldAddr 10), [.tmp 16], none⟩,
    ⟨(some 18), .r (.load (some 2)), [.tmp 17], none⟩,
    ⟨(some 19), .p .move, [.tmp 0], none⟩,
    ⟨(some 20), .p .nilCheck, [.tmp 19], none⟩,
    ⟨(some 21), .p (.fieldAddr 2), [.tmp 20], none⟩,
    ⟨(some 22), .r (.load none), [.tmp 21], none⟩], [], some ⟨none, .h (.store 2), [.tmp 2, .tmp 18], none⟩⟩,
   ⟨[⟨(some 3), .p .move, [.tmp 22], none⟩,
    ⟨(some 4), .p .move, [.lit (.bool true)], none⟩], [⟨(some 22), .r (.load none), [.tmp 21], none⟩], none⟩])
  .ret))), [.cell 2 (some 2), .tmp 3, .tmp 4]⟩
theorem c12 : cFunc Go.Proofs.Try.prog false 1 Go.Proofs.Try.f12 = some sf12 := by kernel_rfl

/-- (*rosary/probe.Probe).Gone -/
def sf13 : SFunc := ⟨2, 20, (.seq (.reg [⟨(some 4), .p .move, [.lit .nilslice], none⟩,
    ⟨(some 5), .p .move, [.lit (.bool false)], none⟩])
  (.seq (.seq (.reg [⟨(some 6), .p .move, [.tmp 0], none⟩,
    ⟨(some 7), .p (.eq false .ptr), [.tmp 6, .lit .nilptr], none⟩,
    ⟨(some 8), .p .move, [.tmp 7], none⟩,
    ⟨(some 9), .p .move, [.tmp 0], some (8, false)⟩,
    ⟨(some 10), .p .nilCheck, [.tmp 9], some (8, false)⟩,
    ⟨(some 11), .p (.fieldAddr 4), [.tmp 10], some (8, false)⟩,
    ⟨(some 12), .r (.load none), [.tmp 11], some (8, false)⟩,
    ⟨(some 13), .p (.bin .neq), [.tmp 12, .lit (.int .i64 5)], some (8, false)⟩,
    ⟨(some 14), .p .pick, [.tmp 8, .lit (.bool true), .tmp 13], none⟩])
  (.cond (.tmp 14) (.seq (.reg [⟨(some 4), .p .move, [.lit .nilslice], none⟩,
    ⟨(some 5), .p .move, [.lit (.bool false)], none⟩])
  .ret)
  .skip))
  (.seq (.seq (.reg [⟨(some 15), .p .move, [.tmp 1], none⟩])
  (.cond (.tmp 15) (.seq (.reg [⟨(some 16), .p .move, [.tmp 0], none⟩,
    ⟨(some 17), .h (.call 20), [.tmp 16, .lit (.int .i64 0)], none⟩,
    ⟨(some 4), .p .move, [.tmp 17], none⟩,
    ⟨(some 5), .p .move, [.lit (.bool false)], none⟩])
  .ret)
  .skip))
  (.seq (.reg [⟨(some 18), .p .move, [.tmp 0], none⟩,
    ⟨(some 19), .h (.call 19), [.tmp 18], none⟩,
    ⟨(some 4), .p .move, [.tmp 19], none⟩,
    ⟨(some 5), .p .move, [.lit (.bool true)], none⟩])
  .ret)))), [.tmp 4, .tmp 5]⟩
theorem c13 : cFunc Go.Proofs.Try.prog false 2 Go.Proofs.Try.f13 = some sf13 := by kernel_rfl

/-- (*rosary/probe.Probe).letter -/
def sf14 : SFunc := ⟨3, 18, (.seq (.reg [⟨(some 6), .a (.alloc [(.int .i64 0), (.int .i64 0), (.int .i64 0), (.int .i64 0), (.int .i64 0), (.str []), (.str []), (.str []), (.int .i64 0), (.int .i64 0), (.str []), .nilslice, (.bool false), (.str []), (.int .i64 0), (.int .u64 0), (.int .u64 0), (.int .i64 0), .nilslice, (.int .i64 0), (.int .i64 0)]), [], none⟩])
  (.seq (.dreg [⟨[⟨(some 7), .p .move, [.tmp 1], none⟩,
    ⟨(some 8), .p .move, [.tmp 0], none⟩,
    ⟨(some 9), .p .nilCheck, [.tmp 8], none⟩,
    ⟨(some 10), .p (.fieldAddr 0), [.tmp 9], none⟩,
    ⟨(some 11), .r (.load none), [.tmp 10], none⟩,
    ⟨(some 12), .p .move, [.tmp 2], none⟩,
    ⟨(some 13), .p .move, [.tmp 0], none⟩,
    ⟨(some 14), .p .nilCheck, [.tmp 13], none⟩,
    ⟨(some 15), .p (.fieldAddr 3), [.tmp 14], none⟩,
    ⟨(some 16), .r (.load none), [.tmp 15], none⟩,
    ⟨(some 17), .p (.build [(.int .i64 0), (.int .i64 0), (.int .i64 0), (.int .i64 0), (.int .i64 0), (.str []), (.str []), (.str []), (.int .i64 0), (.int .i64 0), (.str []), .nilslice, (.bool false), (.str []), (.int .i64 0), (.int .u64 0), (.int .u64 0), (.int .i64 0), .nilslice, (.int .i64 0), (.int .i64 0)] [(0, 1), (1, 1), (2, 1), (3, 1)]), [.tmp 7, .tmp 11, .tmp 12, .tmp 16], none⟩], [], some ⟨none, .h (.store 21), [.tmp 6, .tmp 17], none⟩⟩,
   ⟨[], [], none⟩])
  .ret)), [.cell 6 (some 21)]⟩
theorem c14 : cFunc Go.Proofs.Try.prog false 3 Go.Proofs.Try.f14 = some sf14 := by kernel_rfl

/-- (*rosary/probe.Probe).from -/
def sf15 : SFunc := ⟨1, 39, (.seq (.reg [⟨(some 2), .p .move, [.lit (.int .i64 0)], none⟩,
    ⟨(some 3), .p .move, [.lit (.int .i64 0)], none⟩,
    ⟨(some 4), .p .move, [.lit (.bool false)], none⟩])
  (.seq (.seq (.reg [⟨(some 5), .p .move, [.tmp 0], none⟩,
    ⟨(some 6), .p .nilCheck, [.tmp 5], none⟩,
    ⟨(some 7), .p (.fieldAddr 4), [.tmp 6], none⟩,
    ⟨(some 8), .r (.load none), [.tmp 7], none⟩])
  (.block 0 (.seq (.reg [⟨(some 10), .p (.bin .eql), [.tmp 8, .lit (.int .i64 1)], none⟩,
    ⟨(some 9), .p .move, [.tmp 10], none⟩])
  (.cond (.tmp 9) (.seq (.reg [⟨(some 11), .p .move, [.tmp 0], none⟩,
    ⟨(some 12), .p .nilCheck, [.tmp 11], none⟩,
    ⟨(some 13), .p (.fieldAddr 1), [.tmp 12], none⟩,
    ⟨(some 14), .r (.load none), [.tmp 13], none⟩,
    ⟨(some 2), .p .move, [.tmp 14], none⟩,
    ⟨(some 3), .p .move, [.lit (.int .i64 4)], none⟩,
    ⟨(some 4), .p .move, [.lit (.bool true)], none⟩])
  .ret)
  (.seq (.reg [⟨(some 16), .p (.bin .eql), [.tmp 8, .lit (.int .i64 2)], none⟩,
    ⟨(some 15), .p .move, [.tmp 16], none⟩])
  (.cond (.tmp 15) (.seq (.reg [⟨(some 17), .p .move, [.tmp 0], none⟩,
    ⟨(some 18), .p .nilCheck, [.tmp 17], none⟩,
    ⟨(some 19), .p (.fieldAddr 2), [.tmp 18], none⟩,
    ⟨(some 20), .r (.load none), [.tmp 19], none⟩,
    ⟨(some 2), .p .move, [.tmp 20], none⟩,
    ⟨(some 3), .p .move, [.lit (.int .i64 4)], none⟩,
    ⟨(some 4), .p .move, [.lit (.bool true)], none⟩])
  .ret)
  (.seq (.reg [⟨(some 22), .p (.bin .eql), [.tmp 8, .lit (.int .i64 3)], none⟩,
    ⟨(some 21), .p .move, [.tmp 22], none⟩])
  (.cond (.tmp 21) (.seq (.reg [⟨(some 23), .p .move, [.tmp 0], none⟩,
    ⟨(some 24), .p .nilCheck, [.tmp 23], none⟩,
    ⟨(some 25), .p (.fieldAddr 1), [.tmp 24], none⟩,
    ⟨(some 26), .r (.load none), [.tmp 25], none⟩,
    ⟨(some 2), .p .move, [.tmp 26], none⟩,
    ⟨(some 3), .p .move, [.lit (.int .i64 6)], none⟩,
    ⟨(some 4), .p .move, [.lit (.bool true)], none⟩])
  .ret)
  (.seq (.reg [⟨(some 28), .p (.bin .eql), [.tmp 8, .lit (.int .i64 4)], none⟩,
    ⟨(some 27), .p .move, [.tmp 28], none⟩])
  (.cond (.tmp 27) (.seq (.reg [⟨(some 29), .p .move, [.tmp 0], none⟩,
    ⟨(some 30), .p .nilCheck, [.tmp 29], none⟩,
    ⟨(some 31), .p (.fieldAddr 2), [.tmp 30], none⟩,
    ⟨(some 32), .r (.load none), [.tmp 31], none⟩,
    ⟨(some 2), .p .move, [.tmp 32], none⟩,
    ⟨(some 3), .p .move, [.lit (.int .i64 6)], none⟩,
    ⟨(some 4), .p .move, [.lit (.bool true)], none⟩])
  .ret)
  (.seq (.reg [⟨(some 34), .p (.bin .eql), [.tmp 8, .lit (.int .i64 6)], none⟩,
    ⟨(some 33), .p .move, [.tmp 34], none⟩])
  (.cond (.tmp 33) (.seq (.reg [⟨(some 35), .p .move, [.tmp 0], none⟩,
    ⟨(some 36), .p .nilCheck, [.tmp 35], none⟩,
    ⟨(some 37), .p (.fieldAddr 1), [.tmp 36], none⟩,
    ⟨(some 38), .r (.load none), [.tmp 37], none⟩,
    ⟨(some 2), .p .move, [.tmp 38], none⟩,
    ⟨(some 3), .p .move, [.lit (.int .i64 9)], none⟩,
    ⟨(some 4), .p .move, [.lit (.bool true)], none⟩])
  .ret)
  .skip))))))))))))
  (.seq (.reg [⟨(some 2), .p .move, [.lit (.int .i64 0)], none⟩,
    ⟨(some 3), .p .move, [.lit (.int .i64 0)], none⟩,
    ⟨(some 4), .p .move, [.lit (.bool false)], none⟩])
  .ret))), [.tmp 2, .tmp 3, .tmp 4]⟩
theorem c15 : cFunc Go.Proofs.Try.prog false 1 Go.Proofs.Try.f15 = some sf15 := by kernel_rfl

/-- (*rosary/probe.Probe).loads -/
def sf16 : SFunc := ⟨3, 79, (.seq (.reg [⟨(some 4), .a .box, [.tmp 1], none⟩,
    ⟨(some 5), .a .box, [.tmp 2], none⟩,
    ⟨(some 6), .p .move, [.lit .nilslice], none⟩])
  (.seq (.seq (.reg [⟨(some 8), .p (.fieldAddr 20), [.tmp 4], none⟩,
    ⟨(some 9), .r (.load none), [.tmp 8], none⟩,
    ⟨(some 10), .p (.bin .neq), [.tmp 9, .lit (.int .i64 1)], none⟩])
  (.cond (.tmp 10) (.seq (.reg [⟨(some 11), .p .move, [.tmp 0], none⟩,
    ⟨(some 12), .p .nilCheck, [.tmp 11], none⟩,
    ⟨(some 13), .p (.fieldAddr 4), [.tmp 12], none⟩,
    ⟨none, .h (.store 1), [.tmp 13, .lit (.int .i64 7)], none⟩])
  (.seq (.reg [⟨(some 6), .p .move, [.lit .nilslice], none⟩])
  .ret))
  .skip))
  (.seq (.dreg [⟨[⟨(some 14), .p .move, [.tmp 0], none⟩,
    ⟨(some 15), .p .move, [.tmp 0], none⟩,
    ⟨(some 16), .p .move, [.tmp 0], none⟩,
    ⟨(some 17), .p (.fieldAddr 15), [.tmp 4], none⟩,
    ⟨(some 18), .r (.load (some 2)), [.tmp 17], none⟩,
    ⟨(some 19), .p (.fieldAddr 19), [.tmp 4], none⟩,
    ⟨(some 20), .r (.load none), [.tmp 19], none⟩,
    ⟨(some 21), .p (.fieldAddr 17), [.tmp 4], none⟩,
    ⟨(some 22), .r (.load none), [.tmp 21], none⟩,
    ⟨(some 23), .p .nilCheck, [.tmp 14], none⟩,
    ⟨(some 24), .p (.fieldAddr 6), [.tmp 23], none⟩], [], some ⟨none, .h (.store 2), [.tmp 24, .tmp 18], none⟩⟩,
   ⟨[⟨(some 25), .p .nilCheck, [.tmp 15], none⟩,
    ⟨(some 26), .p (.fieldAddr 8), [.tmp 25], none⟩], [⟨(some 20), .r (.load none), [.tmp 19], none⟩,
    ⟨(some 22), .r (.load none), [.tmp 21], none⟩], some ⟨none, .h (.store 1), [.tmp 26, .tmp 20], none⟩⟩,
   ⟨[⟨(some 27), .p .nilCheck, [.tmp 16], none⟩,
    ⟨(some 28), .p (.fieldAddr 9), [.tmp 27], none⟩], [⟨(some 22), .r (.load none), [.tmp 21], none⟩], some ⟨none, .h (.store 1), [.tmp 28, .tmp 22], none⟩⟩,
   ⟨[], [], none⟩])
  (.seq (.seq (.dreg [⟨[⟨(some 29), .p (.fieldAddr 2), [.tmp 5], none⟩,
    ⟨(some 30), .p (.fieldAddr 3), [.tmp 29], none⟩,
    ⟨(some 31), .r (.load none), [.tmp 30], none⟩,
    ⟨(some 32), .p (.bin .lss), [.tmp 31, .lit (.int .i64 0)], none⟩,
    ⟨(some 33), .p .move, [.tmp 32], none⟩,
    ⟨(some 34), .p (.fieldAddr 2), [.tmp 5], some (33, false)⟩,
    ⟨(some 35), .p (.fieldAddr 0), [.tmp 34], some (33, false)⟩,
    ⟨(some 36), .r (.load (some 2)), [.tmp 35], some (33, false)⟩,
    ⟨(some 37), .p .move, [.tmp 0], some (33, false)⟩,
    ⟨(some 38), .p .nilCheck, [.tmp 37], some (33, false)⟩,
    ⟨(some 39), .p (.fieldAddr 6), [.tmp 38], some (33, false)⟩,
    ⟨(some 40), .r (.load (some 2)), [.tmp 39], some (33, false)⟩], [], some ⟨(some 41), .h (.call 21), [.tmp 36, .tmp 40], some (33, false)⟩⟩,
   ⟨[⟨(some 42), .p .pick, [.tmp 33, .lit (.bool true), .tmp 41], none⟩], [], none⟩])
  (.cond (.tmp 42) (.seq (.reg [⟨(some 43), .p .move, [.tmp 0], none⟩,
    ⟨(some 44), .r (.load (some 10)), [.tmp 5], none⟩,
    ⟨(some 45), .h (.call 17), [.tmp 43, .tmp 44, .lit (.int .i64 0)], none⟩,
    ⟨(some 6), .p .move, [.tmp 45], none⟩])
  .ret)
  .skip))
  (.seq (.reg [⟨(some 46), .p (.fieldAddr 6), [.tmp 5], none⟩,
    ⟨(some 47), .p (.fieldAddr 2), [.tmp 46], none⟩,
    ⟨(some 48), .r (.load none), [.tmp 47], none⟩,
    ⟨(some 7), .p .move, [.tmp 48], none⟩])
  (.seq (.seq (.reg [⟨(some 49), .p .move, [.tmp 7], none⟩,
    ⟨(some 50), .p (.bin .eql), [.tmp 49, .lit (.int .i64 (-1))], none⟩,
    ⟨(some 51), .p .move, [.tmp 50], none⟩,
    ⟨(some 52), .p .move, [.tmp 7], some (51, false)⟩,
    ⟨(some 53), .p (.fieldAddr 0), [.tmp 5], some (51, false)⟩,
    ⟨(some 54), .r (.load none), [.tmp 53], some (51, false)⟩,
    ⟨(some 55), .p (.bin .eql), [.tmp 52, .tmp 54], some (51, false)⟩,
    ⟨(some 56), .p .pick, [.tmp 51, .lit (.bool true), .tmp 55], none⟩,
    ⟨(some 57), .p .move, [.tmp 56], none⟩,
    ⟨(some 58), .p .move, [.tmp 7], some (57, false)⟩,
    ⟨(some 59), .p .move, [.tmp 0], some (57, false)⟩,
    ⟨(some 60), .p .nilCheck, [.tmp 59], some (57, false)⟩,
    ⟨(some 61), .p (.fieldAddr 1), [.tmp 60], some (57, false)⟩,
    ⟨(some 62), .r (.load none), [.tmp 61], some (57, false)⟩,
    ⟨(some 63), .p (.bin .eql), [.tmp 58, .tmp 62], some (57, false)⟩,
    ⟨(some 64), .p .pick, [.tmp 57, .lit (.bool true), .tmp 63], none⟩])
  (.cond (.tmp 64) (.seq (.reg [⟨(some 65), .p .move, [.tmp 0], none⟩,
    ⟨(some 66), .p .nilCheck, [.tmp 65], none⟩,
    ⟨(some 67), .p (.fieldAddr 4), [.tmp 66], none⟩,
    ⟨none, .h (.store 1), [.tmp 67, .lit (.int .i64 7)], none⟩])
  (.seq (.reg [⟨(some 6), .p .move, [.lit .nilslice], none⟩])
  .ret))
  .skip))
  (.seq (.reg [⟨(some 68), .p .move, [.tmp 0], none⟩,
    ⟨(some 69), .p .move, [.tmp 0], none⟩,
    ⟨(some 70), .p .move, [.tmp 7], none⟩,
    ⟨(some 71), .p .nilCheck, [.tmp 68], none⟩,
    ⟨(some 72), .p (.fieldAddr 2), [.tmp 71], none⟩,
    ⟨none, .h (.store 1), [.tmp 72, .tmp 70], none⟩,
    ⟨(some 73), .p .nilCheck, [.tmp 69], none⟩,
    ⟨(some 74), .p (.fieldAddr 4), [.tmp 73], none⟩,
    ⟨none, .h (.store 1), [.tmp 74, .lit (.int .i64 2)], none⟩])
  (.seq (.reg [⟨(some 75), .p .move, [.tmp 0], none⟩,
    ⟨(some 76), .p .move, [.tmp 7], none⟩,
    ⟨(some 77), .h (.call 14), [.tmp 75, .lit (.int .i64 3), .tmp 76], none⟩,
    ⟨(some 78), .a (.buildSlice 21 1 [(.int .i64 0), (.int .i64 0), (.int .i64 0), (.int .i64 0), (.int .i64 0), (.str []), (.str []), (.str []), (.int .i64 0), (.int .i64 0), (.str []), .nilslice, (.bool false), (.str []), (.int .i64 0), (.int .u64 0), (.int .u64 0), (.int .i64 0), .nilslice, (.int .i64 0), (.int .i64 0)] [0]), [.tmp 77], none⟩,
    ⟨(some 6), .p .move, [.tmp 78], none⟩])
  .ret)))))))), [.tmp 6]⟩
theorem c16 : cFunc Go.Proofs.Try.prog false 3 Go.Proofs.Try.f16 = some sf16 := by kernel_rfl

/-- (*rosary/probe.Probe).decide -/
def sf17 : SFunc := ⟨3, 55, (.seq (.reg [⟨(some 4), .a .box, [.tmp 1], none⟩,
    ⟨(some 6), .p .move, [.lit .nilslice], none⟩])
  (.seq (.dreg [⟨[⟨(some 8), .p .move, [.tmp 0], none⟩,
    ⟨(some 9), .p .nilCheck, [.tmp 8], none⟩,
    ⟨(some 10), .p (.fieldAddr 6), [.tmp 9], none⟩,
    ⟨(some 11), .r (.load (some 2)), [.tmp 10], none⟩,
    ⟨(some 12), .p .move, [.tmp 0], none⟩,
    ⟨(some 13), .p .nilCheck, [.tmp 12], none⟩,
    ⟨(some 14), .p (.fieldAddr 1), [.tmp 13], none⟩,
    ⟨(some 15), .r (.load none), [.tmp 14], none⟩,
    ⟨(some 16), .p (.build [(.int .u64 0), (.int .u64 0), (.int .i64 0), (.int .i64 0)] [(0, 2), (2, 1)]), [.tmp 11, .tmp 15], none⟩,
    ⟨(some 7), .a (.alloc [(.int .u64 0), (.int .u64 0), (.int .i64 0), (.int .i64 0)]), [], none⟩], [], some ⟨none, .h (.store 4), [.tmp 7, .tmp 16], none⟩⟩,
   ⟨[], [], none⟩])
  (.seq (.dreg [⟨[⟨(some 17), .p .move, [.tmp 0], none⟩,
    ⟨(some 18), .p (.fieldAddr 2), [.tmp 4], none⟩,
    ⟨(some 19), .r (.load (some 4)), [.tmp 18], none⟩,
    ⟨(some 20), .r (.load (some 4)), [.tmp 7], none⟩,
    ⟨(some 21), .p (.fieldAddr 6), [.tmp 4], none⟩,
    ⟨(some 22), .r (.load (some 4)), [.tmp 21], none⟩,
    ⟨(some 23), .p (.fieldAddr 1), [.tmp 4], none⟩,
    ⟨(some 24), .r (.load none), [.tmp 23], none⟩,
    ⟨(some 25), .p .move, [.tmp 0], none⟩,
    ⟨(some 26), .p .nilCheck, [.tmp 25], none⟩,
    ⟨(some 27), .p (.fieldAddr 8), [.tmp 26], none⟩,
    ⟨(some 28), .r (.load none), [.tmp 27], none⟩,
    ⟨(some 29), .p .move, [.tmp 0], none⟩,
    ⟨(some 30), .p .nilCheck, [.tmp 29], none⟩,
    ⟨(some 31), .p (.fieldAddr 9), [.tmp 30], none⟩,
    ⟨(some 32), .r (.load none), [.tmp 31], none⟩,
    ⟨(some 33), .p .move, [.tmp 2], none⟩], [], some ⟨(some 34), .h (.call 22), [.tmp 19, .tmp 20, .tmp 22, .tmp 24, .tmp 28, .tmp 32, .tmp 33], none⟩⟩,
   ⟨[⟨(some 35), .p .nilCheck, [.tmp 17], none⟩,
    ⟨(some 36), .p (.fieldAddr 5), [.tmp 35], none⟩], [], some ⟨none, .h (.store 1), [.tmp 36, .tmp 34], none⟩⟩,
   ⟨[], [], none⟩])
  (.seq (.seq (.reg [⟨(some 37), .p .move, [.tmp 0], none⟩,
    ⟨(some 38), .p .nilCheck, [.tmp 37], none⟩,
    ⟨(some 39), .p (.fieldAddr 5), [.tmp 38], none⟩,
    ⟨(some 40), .r (.load none), [.tmp 39], none⟩,
    ⟨(some 41), .p (.bin .eql), [.tmp 40, .lit (.int .i64 0)], none⟩])
  (.cond (.tmp 41) (.seq (.reg [⟨(some 42), .p .move, [.tmp 0], none⟩,
    ⟨(some 43), .p .nilCheck, [.tmp 42], none⟩,
    ⟨(some 44), .p (.fieldAddr 4), [.tmp 43], none⟩,
    ⟨none, .h (.store 1), [.tmp 44, .lit (.int .i64 7)], none⟩])
  (.seq (.reg [⟨(some 6), .p .move, [.lit .nilslice], none⟩])
  .ret))
  .skip))
  (.seq (.reg [⟨(some 45), .p .move, [.tmp 0], none⟩,
    ⟨(some 46), .p .nilCheck, [.tmp 45], none⟩,
    ⟨(some 47), .p (.fieldAddr 4), [.tmp 46], none⟩,
    ⟨none, .h (.store 1), [.tmp 47, .lit (.int .i64 3)], none⟩])
  (.seq (.reg [⟨(some 48), .p .move, [.tmp 0], none⟩,
    ⟨(some 49), .p .move, [.tmp 0], none⟩,
    ⟨(some 50), .p .nilCheck, [.tmp 49], none⟩,
    ⟨(some 51), .p (.fieldAddr 1), [.tmp 50], none⟩,
    ⟨(some 52), .r (.load none), [.tmp 51], none⟩,
    ⟨(some 53), .h (.call 14), [.tmp 48, .lit (.int .i64 5), .tmp 52], none⟩,
    ⟨(some 54), .a (.buildSlice 21 1 [(.int .i64 0), (.int .i64 0), (.int .i64 0), (.int .i64 0), (.int .i64 0), (.str []), (.str []), (.str []), (.int .i64 0), (.int .i64 0), (.str []), .nilslice, (.bool false), (.str []), (.int .i64 0), (.int .u64 0), (.int .u64 0), (.int .i64 0), .nilslice, (.int .i64 0), (.int .i64 0)] [0]), [.tmp 53], none⟩,
    ⟨(some 6), .p .move, [.tmp 54], none⟩])
  .ret)))))), [.tmp 6]⟩
theorem c17 : cFunc Go.Proofs.Try.prog false 3 Go.Proofs.Try.f17 = some sf17 := by kernel_rfl

/-- (*rosary/probe.Probe).locked -/
def sf18 : SFunc := ⟨3, 70, (.seq (.reg [⟨(some 4), .a .box, [.tmp 1], none⟩,
    ⟨(some 5), .a .box, [.tmp 2], none⟩,
    ⟨(some 6), .p .move, [.lit .nilslice], none⟩])
  (.seq (.block 0 (.seq (.reg [⟨(some 8), .p (.fieldAddr 19), [.tmp 4], none⟩,
    ⟨(some 9), .r (.load none), [.tmp 8], none⟩,
    ⟨(some 10), .p (.bin .neq), [.tmp 9, .lit (.int .i64 1)], none⟩,
    ⟨(some 11), .p .move, [.tmp 10], none⟩,
    ⟨(some 12), .p .move, [.tmp 0], some (11, true)⟩,
    ⟨(some 13), .p .nilCheck, [.tmp 12], some (11, true)⟩,
    ⟨(some 14), .p (.fieldAddr 4), [.tmp 13], some (11, true)⟩,
    ⟨(some 15), .r (.load none), [.tmp 14], some (11, true)⟩,
    ⟨(some 16), .p (.bin .eql), [.tmp 15, .lit (.int .i64 3)], some (11, true)⟩,
    ⟨(some 17), .p .pick, [.tmp 11, .tmp 16, .lit (.bool false)], none⟩,
    ⟨(some 7), .p .move, [.tmp 17], none⟩])
  (.cond (.tmp 7) (.seq (.reg [⟨(some 18), .p .move, [.tmp 0], none⟩,
    ⟨(some 19), .p .nilCheck, [.tmp 18], none⟩,
    ⟨(some 20), .p (.fieldAddr 4), [.tmp 19], none⟩,
    ⟨none, .h (.store 1), [.tmp 20, .lit (.int .i64 7)], none⟩])
  (.seq (.reg [⟨(some 6), .p .move, [.lit .nilslice], none⟩])
  .ret))
  (.seq (.reg [⟨(some 22), .p (.fieldAddr 19), [.tmp 4], none⟩,
    ⟨(some 23), .r (.load none), [.tmp 22], none⟩,
    ⟨(some 24), .p (.bin .neq), [.tmp 23, .lit (.int .i64 1)], none⟩,
    ⟨(some 21), .p .move, [.tmp 24], none⟩])
  (.cond (.tmp 21) (.seq (.reg [⟨(some 25), .p .move, [.tmp 0], none⟩,
    ⟨(some 26), .p .nilCheck, [.tmp 25], none⟩,
    ⟨(some 27), .p (.fieldAddr 4), [.tmp 26], none⟩,
    ⟨none, .h (.store 1), [.tmp 27, .lit (.int .i64 7)], none⟩])
  (.seq (.reg [⟨(some 28), .p .move, [.tmp 0], none⟩,
    ⟨(some 29), .p .move, [.tmp 0], none⟩,
    ⟨(some 30), .p .nilCheck, [.tmp 29], none⟩,
    ⟨(some 31), .p (.fieldAddr 1), [.tmp 30], none⟩,
    ⟨(some 32), .r (.load none), [.tmp 31], none⟩,
    ⟨(some 33), .h (.call 14), [.tmp 28, .lit (.int .i64 7), .tmp 32], none⟩,
    ⟨(some 34), .a (.buildSlice 21 1 [(.int .i64 0), (.int .i64 0), (.int .i64 0), (.int .i64 0), (.int .i64 0), (.str []), (.str []), (.str []), (.int .i64 0), (.int .i64 0), (.str []), .nilslice, (.bool false), (.str []), (.int .i64 0), (.int .u64 0), (.int .u64 0), (.int .i64 0), .nilslice, (.int .i64 0), (.int .i64 0)] [0]), [.tmp 33], none⟩,
    ⟨(some 6), .p .move, [.tmp 34], none⟩])
  .ret))
  (.seq (.reg [⟨(some 36), .p .move, [.tmp 0], none⟩,
    ⟨(some 37), .p .nilCheck, [.tmp 36], none⟩,
    ⟨(some 38), .p (.fieldAddr 4), [.tmp 37], none⟩,
    ⟨(some 39), .r (.load none), [.tmp 38], none⟩,
    ⟨(some 40), .p (.bin .eql), [.tmp 39, .lit (.int .i64 4)], none⟩,
    ⟨(some 35), .p .move, [.tmp 40], none⟩])
  (.cond (.tmp 35) (.seq (.dreg [⟨[⟨(some 41), .p .move, [.tmp 0], none⟩,
    ⟨(some 42), .p .move, [.tmp 0], none⟩,
    ⟨(some 43), .p (.fieldAddr 2), [.tmp 5], none⟩,
    ⟨(some 44), .p (.fieldAddr 0), [.tmp 43], none⟩,
    ⟨(some 45), .r (.load (some 2)), [.tmp 44], none⟩,
    ⟨(some 46), .p .nilCheck, [.tmp 41], none⟩,
    ⟨(some 47), .p (.fieldAddr 4), [.tmp 46], none⟩], [], some ⟨none, .h (.store 1), [.tmp 47, .lit (.int .i64 5)], none⟩⟩,
   ⟨[⟨(some 48), .p .nilCheck, [.tmp 42], none⟩,
    ⟨(some 49), .p (.fieldAddr 10), [.tmp 48], none⟩], [⟨(some 45), .r (.load (some 2)), [.tmp 44], none⟩], some ⟨none, .h (.store 2), [.tmp 49, .tmp 45], none⟩⟩,
   ⟨[], [], none⟩])
  (.seq (.reg [⟨(some 6), .p .move, [.lit .nilslice], none⟩])
  .ret))
  (.seq (.reg [⟨(some 51), .p .move, [.tmp 0], none⟩,
    ⟨(some 52), .p .nilCheck, [.tmp 51], none⟩,
    ⟨(some 53), .p (.fieldAddr 5), [.tmp 52], none⟩,
    ⟨(some 54), .r (.load none), [.tmp 53], none⟩,
    ⟨(some 55), .p (.bin .eql), [.tmp 54, .lit (.int .i64 3)], none⟩,
    ⟨(some 50), .p .move, [.tmp 55], none⟩])
  (.cond (.tmp 50) (.seq (.reg [⟨(some 56), .p .move, [.tmp 0], none⟩,
    ⟨(some 57), .p .nilCheck, [.tmp 56], none⟩,
    ⟨(some 58), .p (.fieldAddr 4), [.tmp 57], none⟩,
    ⟨none, .h (.store 1), [.tmp 58, .lit (.int .i64 4)], none⟩])
  (.seq (.reg [⟨(some 59), .p .move, [.tmp 0], none⟩,
    ⟨(some 60), .p .move, [.tmp 0], none⟩,
    ⟨(some 61), .p .nilCheck, [.tmp 60], none⟩,
    ⟨(some 62), .p (.fieldAddr 2), [.tmp 61], none⟩,
    ⟨(some 63), .r (.load none), [.tmp 62], none⟩,
    ⟨(some 64), .h (.call 14), [.tmp 59, .lit (.int .i64 5), .tmp 63], none⟩,
    ⟨(some 65), .a (.buildSlice 21 1 [(.int .i64 0), (.int .i64 0), (.int .i64 0), (.int .i64 0), (.int .i64 0), (.str []), (.str []), (.str []), (.int .i64 0), (.int .i64 0), (.str []), .nilslice, (.bool false), (.str []), (.int .i64 0), (.int .u64 0), (.int .u64 0), (.int .i64 0), .nilslice, (.int .i64 0), (.int .i64 0)] [0]), [.tmp 64], none⟩,
    ⟨(some 6), .p .move, [.tmp 65], none⟩])
  .ret))
  .skip)))))))))
  (.seq (.reg [⟨(some 66), .p .move, [.tmp 0], none⟩,
    ⟨(some 67), .p (.fieldAddr 1), [.tmp 5], none⟩,
    ⟨(some 68), .r (.load none), [.tmp 67], none⟩,
    ⟨(some 69), .h (.call 20), [.tmp 66, .tmp 68], none⟩,
    ⟨(some 6), .p .move, [.tmp 69], none⟩])
  .ret))), [.tmp 6]⟩
theorem c18 : cFunc Go.Proofs.Try.prog false 3 Go.Proofs.Try.f18 = some sf18 := by kernel_rfl

/-- (*rosary/probe.Probe).free -/
def sf19 : SFunc := ⟨1, 36, (.seq (.reg [⟨(some 2), .p .move, [.lit .nilslice], none⟩])
  (.seq (.reg [⟨(some 4), .p .move, [.tmp 0], none⟩,
    ⟨(some 5), .p .move, [.tmp 0], none⟩,
    ⟨(some 6), .p .nilCheck, [.tmp 5], none⟩,
    ⟨(some 7), .p (.fieldAddr 1), [.tmp 6], none⟩,
    ⟨(some 8), .r (.load none), [.tmp 7], none⟩,
    ⟨(some 9), .h (.call 14), [.tmp 4, .lit (.int .i64 7), .tmp 8], none⟩,
    ⟨(some 10), .a (.buildSlice 21 1 [(.int .i64 0), (.int .i64 0), (.int .i64 0), (.int .i64 0), (.int .i64 0), (.str []), (.str []), (.str []), (.int .i64 0), (.int .i64 0), (.str []), .nilslice, (.bool false), (.str []), (.int .i64 0), (.int .u64 0), (.int .u64 0), (.int .i64 0), .nilslice, (.int .i64 0), (.int .i64 0)] [0]), [.tmp 9], none⟩,
    ⟨(some 3), .p .move, [.tmp 10], none⟩])
  (.seq (.seq (.reg [⟨(some 11), .p .move, [.tmp 0], none⟩,
    ⟨(some 12), .p .nilCheck, [.tmp 11], none⟩,
    ⟨(some 13), .p (.fieldAddr 5), [.tmp 12], none⟩,
    ⟨(some 14), .r (.load none), [.tmp 13], none⟩,
    ⟨(some 15), .p (.bin .eql), [.tmp 14, .lit (.int .i64 3)], none⟩,
    ⟨(some 16), .p .move, [.tmp 15], none⟩,
    ⟨(some 17), .p .move, [.tmp 0], some (16, true)⟩,
    ⟨(some 18), .p .nilCheck, [.tmp 17], some (16, true)⟩,
    ⟨(some 19), .p (.fieldAddr 4), [.tmp 18], some (16, true)⟩,
    ⟨(some 20), .r (.load none), [.tmp 19], some (16, true)⟩,
    ⟨(some 21), .p (.bin .neq), [.tmp 20, .lit (.int .i64 3)], some (16, true)⟩,
    ⟨(some 22), .p .pick, [.tmp 16, .tmp 21, .lit (.bool false)], none⟩])
  (.cond (.tmp 22) (.reg [⟨(some 23), .p .move, [.tmp 3], none⟩,
    ⟨(some 24), .p .move, [.tmp 0], none⟩,
    ⟨(some 25), .p .move, [.tmp 0], none⟩,
    ⟨(some 26), .p .nilCheck, [.tmp 25], none⟩,
    ⟨(some 27), .p (.fieldAddr 2), [.tmp 26], none⟩,
    ⟨(some 28), .r (.load none), [.tmp 27], none⟩,
    ⟨(some 29), .h (.call 14), [.tmp 24, .lit (.int .i64 7), .tmp 28], none⟩,
    ⟨(some 30), .a (.buildSlice 21 1 [(.int .i64 0), (.int .i64 0), (.int .i64 0), (.int .i64 0), (.int .i64 0), (.str []), (.str []), (.str []), (.int .i64 0), (.int .i64 0), (.str []), .nilslice, (.bool false), (.str []), (.int .i64 0), (.int .u64 0), (.int .u64 0), (.int .i64 0), .nilslice, (.int .i64 0), (.int .i64 0)] [0]), [.tmp 29], none⟩,
    ⟨(some 31), .h (.append 21 false), [.tmp 23, .tmp 30], none⟩,
    ⟨(some 3), .p .move, [.tmp 31], none⟩])
  .skip))
  (.seq (.reg [⟨(some 32), .p .move, [.tmp 0], none⟩,
    ⟨(some 33), .p .nilCheck, [.tmp 32], none⟩,
    ⟨(some 34), .p (.fieldAddr 4), [.tmp 33], none⟩,
    ⟨none, .h (.store 1), [.tmp 34, .lit (.int .i64 7)], none⟩])
  (.seq (.reg [⟨(some 35), .p .move, [.tmp 3], none⟩,
    ⟨(some 2), .p .move, [.tmp 35], none⟩])
  .ret))))), [.tmp 2]⟩
theorem c19 : cFunc Go.Proofs.Try.prog false 1 Go.Proofs.Try.f19 = some sf19 := by kernel_rfl

/-- (*rosary/probe.Probe).give -/
def sf20 : SFunc := ⟨2, 29, (.seq (.reg [⟨(some 4), .p .move, [.lit .nilslice], none⟩])
  (.seq (.reg [⟨(some 6), .p .move, [.tmp 0], none⟩,
    ⟨(some 7), .p .nilCheck, [.tmp 6], none⟩,
    ⟨(some 8), .p (.fieldAddr 4), [.tmp 7], none⟩,
    ⟨none, .h (.store 1), [.tmp 8, .lit (.int .i64 6)], none⟩])
  (.seq (.reg [⟨(some 9), .p .move, [.tmp 0], none⟩,
    ⟨(some 10), .p .move, [.tmp 0], none⟩,
    ⟨(some 11), .p .nilCheck, [.tmp 10], none⟩,
    ⟨(some 12), .p (.fieldAddr 1), [.tmp 11], none⟩,
    ⟨(some 13), .r (.load none), [.tmp 12], none⟩,
    ⟨(some 14), .h (.call 14), [.tmp 9, .lit (.int .i64 8), .tmp 13], none⟩,
    ⟨(some 5), .a (.alloc [(.int .i64 0), (.int .i64 0), (.int .i64 0), (.int .i64 0), (.int .i64 0), (.str []), (.str []), (.str []), (.int .i64 0), (.int .i64 0), (.str []), .nilslice, (.bool false), (.str []), (.int .i64 0), (.int .u64 0), (.int .u64 0), (.int .i64 0), .nilslice, (.int .i64 0), (.int .i64 0)]), [], none⟩,
    ⟨none, .h (.store 21), [.tmp 5, .tmp 14], none⟩])
  (.seq (.dreg [⟨[⟨(some 15), .p .move, [.tmp 0], none⟩,
    ⟨(some 16), .p .nilCheck, [.tmp 15], none⟩,
    ⟨(some 17), .p (.fieldAddr 0), [.tmp 16], none⟩,
    ⟨(some 18), .r (.load none), [.tmp 17], none⟩,
    ⟨(some 19), .p .move, [.tmp 1], none⟩,
    ⟨(some 20), .p .move, [.tmp 0], none⟩,
    ⟨(some 21), .p .nilCheck, [.tmp 20], none⟩,
    ⟨(some 22), .p (.fieldAddr 5), [.tmp 21], none⟩,
    ⟨(some 23), .r (.load none), [.tmp 22], none⟩,
    ⟨(some 24), .p (.fieldAddr 20), [.tmp 5], none⟩], [], some ⟨none, .h (.store 1), [.tmp 24, .tmp 18], none⟩⟩,
   ⟨[⟨(some 25), .p (.fieldAddr 19), [.tmp 5], none⟩], [⟨(some 23), .r (.load none), [.tmp 22], none⟩], some ⟨none, .h (.store 1), [.tmp 25, .tmp 19], none⟩⟩,
   ⟨[⟨(some 26), .p (.fieldAddr 17), [.tmp 5], none⟩], [⟨(some 23), .r (.load none), [.tmp 22], none⟩], some ⟨none, .h (.store 1), [.tmp 26, .tmp 23], none⟩⟩,
   ⟨[], [], none⟩])
  (.seq (.reg [⟨(some 27), .r (.load (some 21)), [.tmp 5], none⟩,
    ⟨(some 28), .a (.buildSlice 21 1 [(.int .i64 0), (.int .i64 0), (.int .i64 0), (.int .i64 0), (.int .i64 0), (.str []), (.str []), (.str []), (.int .i64 0), (.int .i64 0), (.str []), .nilslice, (.bool false), (.str []), (.int .i64 0), (.int .u64 0), (.int .u64 0), (.int .i64 0), .nilslice, (.int .i64 0), (.int .i64 0)] [0]), [.tmp 27], none⟩,
    ⟨(some 4), .p .move, [.tmp 28], none⟩])
  .ret))))), [.tmp 4]⟩
theorem c20 : cFunc Go.Proofs.Try.prog false 2 Go.Proofs.Try.f20 = some sf20 := by kernel_rfl

/-- rosary/probe.beside -/
def sf21 : SFunc := ⟨2, 27, (.seq (.reg [⟨(some 2), .a .box, [.tmp 0], none⟩,
    ⟨(some 3), .a .box, [.tmp 1], none⟩,
    ⟨(some 4), .p .move, [.lit (.bool false)], none⟩])
  (.seq (.reg [⟨(some 5), .r (.load (some 2)), [.tmp 2], none⟩,
    ⟨(some 6), .h (.call 23), [.tmp 5], none⟩,
    ⟨(some 7), .p .not, [.tmp 6], none⟩,
    ⟨(some 8), .p .move, [.tmp 7], none⟩,
    ⟨(some 9), .r (.load (some 2)), [.tmp 3], some (8, true)⟩,
    ⟨(some 10), .h (.call 23), [.tmp 9], some (8, true)⟩,
    ⟨(some 11), .p .not, [.tmp 10], some (8, true)⟩,
    ⟨(some 12), .p .pick, [.tmp 8, .tmp 11, .lit (.bool false)], none⟩,
    ⟨(some 13), .p .move, [.tmp 12], none⟩,
    ⟨(some 14), .p (.fieldAddr 1), [.tmp 2], some (13, true)⟩,
    ⟨(some 15), .r (.load none), [.tmp 14], some (13, true)⟩,
    ⟨(some 16), .p (.fieldAddr 0), [.tmp 3], some (13, true)⟩,
    ⟨(some 17), .r (.load none), [.tmp 16], some (13, true)⟩,
    ⟨(some 18), .p (.bin .eql), [.tmp 15, .tmp 17], some (13, true)⟩,
    ⟨(some 19), .p .move, [.tmp 18], some (13, true)⟩,
    ⟨(some 20), .p (.fieldAddr 1), [.tmp 3], some (19, false)⟩,
    ⟨(some 21), .r (.load none), [.tmp 20], some (19, false)⟩,
    ⟨(some 22), .p (.fieldAddr 0), [.tmp 2], some (19, false)⟩,
    ⟨(some 23), .r (.load none), [.tmp 22], some (19, false)⟩,
    ⟨(some 24), .p (.bin .eql), [.tmp 21, .tmp 23], some (19, false)⟩,
    ⟨(some 25), .p .pick, [.tmp 19, .lit (.bool true), .tmp 24], some (13, true)⟩,
    ⟨(some 26), .p .pick, [.tmp 13, .tmp 25, .lit (.bool false)], none⟩,
    ⟨(some 4), .p .move, [.tmp 26], none⟩])
  .ret)), [.tmp 4]⟩
theorem c21 : cFunc Go.Proofs.Try.prog false 2 Go.Proofs.Try.f21 = some sf21 := by kernel_rfl

/-- rosary/ratio.Plan -/
def sf22 : SFunc := ⟨7, 84, (.seq (.reg [⟨(some 7), .a .box, [.tmp 0], none⟩,
    ⟨(some 8), .a .box, [.tmp 1], none⟩,
    ⟨(some 9), .a .box, [.tmp 2], none⟩,
    ⟨(some 14), .p .move, [.lit (.int .i64 0)], none⟩])
  (.seq (.seq (.reg [⟨(some 17), .p .move, [.tmp 3], none⟩,
    ⟨(some 18), .p .move, [.tmp 4], none⟩,
    ⟨(some 19), .h (.call 24), [.tmp 17, .tmp 18], none⟩,
    ⟨(some 20), .p .not, [.tmp 19], none⟩,
    ⟨(some 21), .p .move, [.tmp 20], none⟩,
    ⟨(some 22), .p .move, [.tmp 5], some (21, false)⟩,
    ⟨(some 23), .p (.bin .lss), [.tmp 22, .lit (.int .i64 1)], some (21, false)⟩,
    ⟨(some 24), .p .pick, [.tmp 21, .lit (.bool true), .tmp 23], none⟩,
    ⟨(some 25), .p .move, [.tmp 24], none⟩,
    ⟨(some 26), .p .move, [.tmp 5], some (25, false)⟩,
    ⟨(some 27), .p .move, [.tmp 4], some (25, false)⟩,
    ⟨(some 28), .p (.bin .sub), [.tmp 27, .lit (.int .i64 1)], some (25, false)⟩,
    ⟨(some 29), .p (.bin .gtr), [.tmp 26, .tmp 28], some (25, false)⟩,
    ⟨(some 30), .p .pick, [.tmp 25, .lit (.bool true), .tmp 29], none⟩])
  (.cond (.tmp 30) (.seq (.reg [⟨(some 14), .p .move, [.lit (.int .i64 0)], none⟩])
  .ret)
  .skip))
  (.seq (.reg [⟨(some 15), .p .move, [.lit (.int .i64 3)], none⟩,
    ⟨(some 16), .p .move, [.lit (.bool false)], none⟩])
  (.seq (.block 0 (.seq (.reg [⟨(some 32), .p (.fieldAddr 3), [.tmp 7], none⟩,
    ⟨(some 33), .r (.load none), [.tmp 32], none⟩,
    ⟨(some 34), .p (.bin .lss), [.tmp 33, .lit (.int .i64 0)], none⟩,
    ⟨(some 35), .p .move, [.tmp 34], none⟩,
    ⟨(some 36), .p (.fieldAddr 0), [.tmp 7], some (35, false)⟩,
    ⟨(some 37), .r (.load (some 2)), [.tmp 36], some (35, false)⟩,
    ⟨(some 38), .p (.fieldAddr 0), [.tmp 8], some (35, false)⟩,
    ⟨(some 39), .r (.load (some 2)), [.tmp 38], some (35, false)⟩,
    ⟨(some 40), .h (.call 25), [.tmp 37, .tmp 39], some (35, false)⟩,
    ⟨(some 41), .p .pick, [.tmp 35, .lit (.bool true), .tmp 40], none⟩,
    ⟨(some 31), .p .move, [.tmp 41], none⟩])
  (.cond (.tmp 31) (.reg [⟨(some 42), .p .move, [.tmp 3], none⟩,
    ⟨(some 43), .p .move, [.tmp 4], none⟩,
    ⟨(some 44), .p .move, [.tmp 5], none⟩,
    ⟨(some 45), .h (.call 26), [.tmp 42, .tmp 43, .tmp 44], none⟩,
    ⟨(some 15), .p .move, [.lit (.int .i64 1)], none⟩,
    ⟨(some 16), .p .move, [.tmp 45], none⟩])
  (.seq (.reg [⟨(some 47), .p (.fieldAddr 0), [.tmp 8], none⟩,
    ⟨(some 48), .r (.load (some 2)), [.tmp 47], none⟩,
    ⟨(some 49), .p (.fieldAddr 0), [.tmp 7], none⟩,
    ⟨(some 50), .r (.load (some 2)), [.tmp 49], none⟩,
    ⟨(some 51), .h (.call 25), [.tmp 48, .tmp 50], none⟩,
    ⟨(some 46), .p .move, [.tmp 51], none⟩])
  (.cond (.tmp 46) (.reg [⟨(some 52), .p .move, [.tmp 3], none⟩,
    ⟨(some 53), .p .move, [.tmp 4], none⟩,
    ⟨(some 54), .p .move, [.tmp 4], none⟩,
    ⟨(some 55), .p .move, [.tmp 5], none⟩,
    ⟨(some 56), .p (.bin .sub), [.tmp 54, .tmp 55], none⟩,
    ⟨(some 57), .h (.call 26), [.tmp 52, .tmp 53, .tmp 56], none⟩,
    ⟨(some 15), .p .move, [.lit (.int .i64 2)], none⟩,
    ⟨(some 16), .p .move, [.tmp 57], none⟩])
  (.seq (.reg [⟨(some 59), .p (.fieldAddr 2), [.tmp 9], none⟩,
    ⟨(some 60), .r (.load none), [.tmp 59], none⟩,
    ⟨(some 61), .p (.fieldAddr 2), [.tmp 8], none⟩,
    ⟨(some 62), .r (.load none), [.tmp 61], none⟩,
    ⟨(some 63), .p (.bin .neq), [.tmp 60, .tmp 62], none⟩,
    ⟨(some 64), .p .move, [.tmp 63], none⟩,
    ⟨(some 65), .p (.fieldAddr 2), [.tmp 9], some (64, true)⟩,
    ⟨(some 66), .r (.load none), [.tmp 65], some (64, true)⟩,
    ⟨(some 67), .p (.fieldAddr 2), [.tmp 7], some (64, true)⟩,
    ⟨(some 68), .r (.load none), [.tmp 67], some (64, true)⟩,
    ⟨(some 69), .p (.bin .neq), [.tmp 66, .tmp 68], some (64, true)⟩,
    ⟨(some 70), .p .pick, [.tmp 64, .tmp 69, .lit (.bool false)], none⟩,
    ⟨(some 71), .p .move, [.tmp 70], none⟩,
    ⟨(some 72), .p .move, [.tmp 6], some (71, true)⟩,
    ⟨(some 73), .p .move, [.tmp 4], some (71, true)⟩,
    ⟨(some 74), .p (.bin .leq), [.tmp 72, .tmp 73], some (71, true)⟩,
    ⟨(some 75), .p .pick, [.tmp 71, .tmp 74, .lit (.bool false)], none⟩,
    ⟨(some 58), .p .move, [.tmp 75], none⟩])
  (.cond (.tmp 58) (.reg [⟨(some 76), .p .move, [.tmp 3], none⟩,
    ⟨(some 77), .p .move, [.tmp 4], none⟩,
    ⟨(some 78), .p .move, [.tmp 5], none⟩,
    ⟨(some 79), .p .move, [.tmp 6], none⟩,
    ⟨(some 80), .h (.call 27), [.tmp 76, .tmp 77, .tmp 78, .tmp 79], none⟩,
    ⟨(some 16), .p .move, [.tmp 80], none⟩])
  .skip)))))))
  (.seq (.seq (.reg [⟨(some 81), .p .move, [.tmp 16], none⟩,
    ⟨(some 82), .p .not, [.tmp 81], none⟩])
  (.cond (.tmp 82) (.seq (.reg [⟨(some 14), .p .move, [.lit (.int .i64 0)], none⟩])
  .ret)
  .skip))
  (.seq (.reg [⟨(some 83), .p .move, [.tmp 15], none⟩,
    ⟨(some 14), .p .move, [.tmp 83], none⟩])
  .ret)))))), [.tmp 14]⟩
theorem c22 : cFunc Go.Proofs.Try.prog false 7 Go.Proofs.Try.f22 = some sf22 := by kernel_rfl

/-- rosary/arc.Whole -/
def sf23 : SFunc := ⟨1, 8, (.seq (.reg [⟨(some 1), .a .box, [.tmp 0], none⟩,
    ⟨(some 2), .p .move, [.lit (.bool false)], none⟩])
  (.seq (.reg [⟨(some 3), .p (.fieldAddr 0), [.tmp 1], none⟩,
    ⟨(some 4), .r (.load none), [.tmp 3], none⟩,
    ⟨(some 5), .p (.fieldAddr 1), [.tmp 1], none⟩,
    ⟨(some 6), .r (.load none), [.tmp 5], none⟩,
    ⟨(some 7), .p (.bin .eql), [.tmp 4, .tmp 6], none⟩,
    ⟨(some 2), .p .move, [.tmp 7], none⟩])
  .ret)), [.tmp 2]⟩
theorem c23 : cFunc Go.Proofs.Try.prog false 1 Go.Proofs.Try.f23 = some sf23 := by kernel_rfl

/-- rosary/ratio.Uneven -/
def sf24 : SFunc := ⟨2, 20, (.seq (.reg [⟨(some 4), .p .move, [.lit (.bool false)], none⟩])
  (.seq (.reg [⟨(some 5), .p .move, [.tmp 0], none⟩,
    ⟨(some 6), .p .move, [.tmp 1], none⟩,
    ⟨(some 7), .a (.buildSlice 1 2 [(.int .i64 0)] [0, 1]), [.tmp 5, .tmp 6], none⟩,
    ⟨(some 8), .h (.call 28), [.tmp 7], none⟩,
    ⟨(some 9), .p .move, [.tmp 8], none⟩,
    ⟨(some 10), .p .move, [.tmp 1], some (9, true)⟩,
    ⟨(some 11), .p (.bin .geq), [.tmp 10, .lit (.int .i64 2)], some (9, true)⟩,
    ⟨(some 12), .p .pick, [.tmp 9, .tmp 11, .lit (.bool false)], none⟩,
    ⟨(some 13), .p .move, [.tmp 12], none⟩,
    ⟨(some 14), .p .move, [.tmp 0], some (13, true)⟩,
    ⟨(some 15), .p (.bin .mul), [.lit (.int .i64 5), .tmp 14], some (13, true)⟩,
    ⟨(some 16), .p .move, [.tmp 1], some (13, true)⟩,
    ⟨(some 17), .p (.bin .mul), [.lit (.int .i64 1), .tmp 16], some (13, true)⟩,
    ⟨(some 18), .p (.bin .lss), [.tmp 15, .tmp 17], some (13, true)⟩,
    ⟨(some 19), .p .pick, [.tmp 13, .tmp 18, .lit (.bool false)], none⟩,
    ⟨(some 4), .p .move, [.tmp 19], none⟩])
  .ret)), [.tmp 4]⟩
theorem c24 : cFunc Go.Proofs.Try.prog false 2 Go.Proofs.Try.f24 = some sf24 := by kernel_rfl

/-- rosary/ratio.follows -/
def sf25 : SFunc := ⟨2, 20, (.seq (.reg [⟨(some 2), .a .box, [.tmp 0], none⟩,
    ⟨(some 3), .a .box, [.tmp 1], none⟩,
    ⟨(some 4), .p .move, [.lit (.bool false)], none⟩])
  (.seq (.reg [⟨(some 5), .p (.fieldAddr 1), [.tmp 2], none⟩,
    ⟨(some 6), .r (.load none), [.tmp 5], none⟩,
    ⟨(some 7), .p (.fieldAddr 0), [.tmp 3], none⟩,
    ⟨(some 8), .r (.load none), [.tmp 7], none⟩,
    ⟨(some 9), .p (.bin .eql), [.tmp 6, .tmp 8], none⟩,
    ⟨(some 10), .p .move, [.tmp 9], none⟩,
    ⟨(some 11), .r (.load (some 2)), [.tmp 2], some (10, true)⟩,
    ⟨(some 12), .h (.call 23), [.tmp 11], some (10, true)⟩,
    ⟨(some 13), .p .not, [.tmp 12], some (10, true)⟩,
    ⟨(some 14), .p .pick, [.tmp 10, .tmp 13, .lit (.bool false)], none⟩,
    ⟨(some 15), .p .move, [.tmp 14], none⟩,
    ⟨(some 16), .r (.load (some 2)), [.tmp 3], some (15, true)⟩,
    ⟨(some 17), .h (.call 23), [.tmp 16], some (15, true)⟩,
    ⟨(some 18), .p .not, [.tmp 17], some (15, true)⟩,
    ⟨(some 19), .p .pick, [.tmp 15, .tmp 18, .lit (.bool false)], none⟩,
    ⟨(some 4), .p .move, [.tmp 19], none⟩])
  .ret)), [.tmp 4]⟩
theorem c25 : cFunc Go.Proofs.Try.prog false 2 Go.Proofs.Try.f25 = some sf25 := by kernel_rfl

/-- rosary/ratio.Worth -/
def sf26 : SFunc := ⟨3, 27, (.seq (.reg [⟨(some 6), .p .move, [.lit (.bool false)], none⟩])
  (.seq (.reg [⟨(some 7), .p .move, [.tmp 0], none⟩,
    ⟨(some 8), .p .move, [.tmp 1], none⟩,
    ⟨(some 9), .a (.buildSlice 1 2 [(.int .i64 0)] [0, 1]), [.tmp 7, .tmp 8], none⟩,
    ⟨(some 10), .h (.call 28), [.tmp 9], none⟩,
    ⟨(some 11), .p .move, [.tmp 10], none⟩,
    ⟨(some 12), .p .move, [.tmp 2], some (11, true)⟩,
    ⟨(some 13), .p (.bin .geq), [.tmp 12, .lit (.int .i64 1)], some (11, true)⟩,
    ⟨(some 14), .p .pick, [.tmp 11, .tmp 13, .lit (.bool false)], none⟩,
    ⟨(some 15), .p .move, [.tmp 14], none⟩,
    ⟨(some 16), .p .move, [.tmp 2], some (15, true)⟩,
    ⟨(some 17), .p .move, [.tmp 1], some (15, true)⟩,
    ⟨(some 18), .p (.bin .leq), [.tmp 16, .tmp 17], some (15, true)⟩,
    ⟨(some 19), .p .pick, [.tmp 15, .tmp 18, .lit (.bool false)], none⟩,
    ⟨(some 20), .p .move, [.tmp 19], none⟩,
    ⟨(some 21), .p .move, [.tmp 2], some (20, true)⟩,
    ⟨(some 22), .p .move, [.tmp 1], some (20, true)⟩,
    ⟨(some 23), .p .move, [.tmp 0], some (20, true)⟩,
    ⟨(some 24), .p (.bin .sub), [.tmp 22, .tmp 23], some (20, true)⟩,
    ⟨(some 25), .p (.bin .lss), [.tmp 21, .tmp 24], some (20, true)⟩,
    ⟨(some 26), .p .pick, [.tmp 20, .tmp 25, .lit (.bool false)], none⟩,
    ⟨(some 6), .p .move, [.tmp 26], none⟩])
  .ret)), [.tmp 6]⟩
theorem c26 : cFunc Go.Proofs.Try.prog false 3 Go.Proofs.Try.f26 = some sf26 := by kernel_rfl

/-- rosary/ratio.WorthHop -/
def sf27 : SFunc := ⟨4, 34, (.seq (.reg [⟨(some 8), .p .move, [.lit (.bool false)], none⟩])
  (.seq (.reg [⟨(some 9), .p .move, [.tmp 0], none⟩,
    ⟨(some 10), .p .move, [.tmp 1], none⟩,
    ⟨(some 11), .p .move, [.tmp 3], none⟩,
    ⟨(some 12), .a (.buildSlice 1 3 [(.int .i64 0)] [0, 1, 2]), [.tmp 9, .tmp 10, .tmp 11], none⟩,
    ⟨(some 13), .h (.call 28), [.tmp 12], none⟩,
    ⟨(some 14), .p .move, [.tmp 13], none⟩,
    ⟨(some 15), .p .move, [.tmp 2], some (14, true)⟩,
    ⟨(some 16), .p (.bin .geq), [.tmp 15, .lit (.int .i64 1)], some (14, true)⟩,
    ⟨(some 17), .p .pick, [.tmp 14, .tmp 16, .lit (.bool false)], none⟩,
    ⟨(some 18), .p .move, [.tmp 17], none⟩,
    ⟨(some 19), .p .move, [.tmp 2], some (18, true)⟩,
    ⟨(some 20), .p .move, [.tmp 1], some (18, true)⟩,
    ⟨(some 21), .p (.bin .lss), [.tmp 19, .tmp 20], some (18, true)⟩,
    ⟨(some 22), .p .pick, [.tmp 18, .tmp 21, .lit (.bool false)], none⟩,
    ⟨(some 23), .p .move, [.tmp 22], none⟩,
    ⟨(some 24), .p .move, [.tmp 3], some (23, true)⟩,
    ⟨(some 25), .p .move, [.tmp 0], some (23, true)⟩,
    ⟨(some 26), .p (.bin .mul), [.tmp 24, .tmp 25], some (23, true)⟩,
    ⟨(some 27), .p .move, [.tmp 2], some (23, true)⟩,
    ⟨(some 28), .p .move, [.tmp 1], some (23, true)⟩,
    ⟨(some 29), .p .move, [.tmp 2], some (23, true)⟩,
    ⟨(some 30), .p (.bin .sub), [.tmp 28, .tmp 29], some (23, true)⟩,
    ⟨(some 31), .p (.bin .mul), [.tmp 27, .tmp 30], some (23, true)⟩,
    ⟨(some 32), .p (.bin .lss), [.tmp 26, .tmp 31], some (23, true)⟩,
    ⟨(some 33), .p .pick, [.tmp 23, .tmp 32, .lit (.bool false)], none⟩,
    ⟨(some 8), .p .move, [.tmp 33], none⟩])
  .ret)), [.tmp 8]⟩
theorem c27 : cFunc Go.Proofs.Try.prog false 4 Go.Proofs.Try.f27 = some sf27 := by kernel_rfl

/-- rosary/ratio.count -/
def sf28 : SFunc := ⟨1, 20, (.seq (.reg [⟨(some 2), .p .move, [.lit (.bool false)], none⟩])
  (.scope (.seq (.reg [⟨(some 3), .p .move, [.lit (.bool true)], none⟩])
  (.seq .skip
  (.seq (.seq (.reg [⟨(some 6), .p .move, [.tmp 0], none⟩,
    ⟨(some 7), .p .lenSl, [.tmp 6], none⟩,
    ⟨(some 8), .p .move, [.lit (.int .i64 0)], none⟩])
  (.block 0 (.loop [3, 6, 7, 8] (.seq (.reg [⟨(some 9), .p (.bin .lss), [.tmp 8, .tmp 7], none⟩])
  (.seq (.cond (.tmp 9) .skip
  (.exit 0))
  (.seq (.block 1 (.seq (.reg [⟨(some 10), .p (.indexAddr 1), [.tmp 6, .tmp 8], none⟩,
    ⟨(some 11), .r (.load none), [.tmp 10], none⟩,
    ⟨(some 5), .p .move, [.tmp 11], none⟩])
  (.seq (.reg [⟨(some 12), .p .move, [.tmp 5], none⟩,
    ⟨(some 13), .p (.bin .lss), [.tmp 12, .lit (.int .i64 0)], none⟩,
    ⟨(some 14), .p .move, [.tmp 13], none⟩,
    ⟨(some 15), .p .move, [.tmp 5], some (14, false)⟩,
    ⟨(some 16), .p (.bin .gtr), [.tmp 15, .lit (.int .i64 200)], some (14, false)⟩,
    ⟨(some 17), .p .pick, [.tmp 14, .lit (.bool true), .tmp 16], none⟩])
  (.cond (.tmp 17) (.seq (.reg [⟨(some 3), .p .move, [.lit (.bool false)], none⟩])
  (.exit 0))
  .skip))))
  (.reg [⟨(some 18), .p (.bin .add), [.tmp 8, .lit (.int .i64 1)], none⟩,
    ⟨(some 8), .p .move, [.tmp 18], none⟩])))))))
  (.seq (.reg [⟨(some 19), .p .move, [.tmp 3], none⟩,
    ⟨(some 2), .p .move, [.tmp 19], none⟩])
  .ret)))))), [.tmp 2]⟩
theorem c28 : cFunc Go.Proofs.Try.prog false 1 Go.Proofs.Try.f28 = some sf28 := by kernel_rfl

def fs : FuncId → Option SFunc
  | 3 => some sf3
  | 4 => some sf4
  | 5 => some sf5
  | 6 => some sf6
  | 7 => some sf7
  | 8 => some sf8
  | 9 => some sf9
  | 10 => some sf10
  | 11 => some sf11
  | 12 => some sf12
  | 13 => some sf13
  | 14 => some sf14
  | 15 => some sf15
  | 16 => some sf16
  | 17 => some sf17
  | 18 => some sf18
  | 19 => some sf19
  | 20 => some sf20
  | 21 => some sf21
  | 22 => some sf22
  | 23 => some sf23
  | 24 => some sf24
  | 25 => some sf25
  | 26 => some sf26
  | 27 => some sf27
  | 28 => some sf28
  | _ => none
theorem fsOk : FsOk Go.Proofs.Try.prog fs := by
  intro f sf h
  unfold fs at h
  split at h
  · cases h; exact ⟨Go.Proofs.Try.f3, _, _, Go.Proofs.Try.func3, c3⟩
  · cases h; exact ⟨Go.Proofs.Try.f4, _, _, Go.Proofs.Try.func4, c4⟩
  · cases h; exact ⟨Go.Proofs.Try.f5, _, _, Go.Proofs.Try.func5, c5⟩
  · cases h; exact ⟨Go.Proofs.Try.f6, _, _, Go.Proofs.Try.func6, c6⟩
  · cases h; exact ⟨Go.Proofs.Try.f7, _, _, Go.Proofs.Try.func7, c7⟩
  · cases h; exact ⟨Go.Proofs.Try.f8, _, _, Go.Proofs.Try.func8, c8⟩
  · cases h; exact ⟨Go.Proofs.Try.f9, _, _, Go.Proofs.Try.func9, c9⟩
  · cases h; exact ⟨Go.Proofs.Try.f10, _, _, Go.Proofs.Try.func10, c10⟩
  · cases h; exact ⟨Go.Proofs.Try.f11, _, _, Go.Proofs.Try.func11, c11⟩
  · cases h; exact ⟨Go.Proofs.Try.f12, _, _, Go.Proofs.Try.func12, c12⟩
  · cases h; exact ⟨Go.Proofs.Try.f13, _, _, Go.Proofs.Try.func13, c13⟩
  · cases h; exact ⟨Go.Proofs.Try.f14, _, _, Go.Proofs.Try.func14, c14⟩
  · cases h; exact ⟨Go.Proofs.Try.f15, _, _, Go.Proofs.Try.func15, c15⟩
  · cases h; exact ⟨Go.Proofs.Try.f16, _, _, Go.Proofs.Try.func16, c16⟩
  · cases h; exact ⟨Go.Proofs.Try.f17, _, _, Go.Proofs.Try.func17, c17⟩
  · cases h; exact ⟨Go.Proofs.Try.f18, _, _, Go.Proofs.Try.func18, c18⟩
  · cases h; exact ⟨Go.Proofs.Try.f19, _, _, Go.Proofs.Try.func19, c19⟩
  · cases h; exact ⟨Go.Proofs.Try.f20, _, _, Go.Proofs.Try.func20, c20⟩
  · cases h; exact ⟨Go.Proofs.Try.f21, _, _, Go.Proofs.Try.func21, c21⟩
  · cases h; exact ⟨Go.Proofs.Try.f22, _, _, Go.Proofs.Try.func22, c22⟩
  · cases h; exact ⟨Go.Proofs.Try.f23, _, _, Go.Proofs.Try.func23, c23⟩
  · cases h; exact ⟨Go.Proofs.Try.f24, _, _, Go.Proofs.Try.func24, c24⟩
  · cases h; exact ⟨Go.Proofs.Try.f25, _, _, Go.Proofs.Try.func25, c25⟩
  · cases h; exact ⟨Go.Proofs.Try.f26, _, _, Go.Proofs.Try.func26, c26⟩
  · cases h; exact ⟨Go.Proofs.Try.f27, _, _, Go.Proofs.Try.func27, c27⟩
  · cases h; exact ⟨Go.Proofs.Try.f28, _, _, Go.Proofs.Try.func28, c28⟩
  · cases h

end Go.Proofs.Ytejheglkoimgiaa.F
