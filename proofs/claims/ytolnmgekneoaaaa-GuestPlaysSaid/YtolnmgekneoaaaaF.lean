/- The functions of this seat's program, translated for the engine (printed by wip/eng/dump.lean). -/
import Derived.Test.YtolnmgekneoaaaaEngV
import Derived.Test.YtolnmgekneoaaaaProg
import Derived.KernelRfl
set_option maxRecDepth 1000000
set_option linter.unusedVariables false
namespace Go.Proofs.Ytolnmgekneoaaaa.F
open Go Go.Eng

/-- rosary/rosarylaw21.GuestOnce -/
def sf3 : SFunc := ⟨2, 112, (.seq (.reg [⟨(some 4), .p .move, [.lit (.bool false)], none⟩])
  (.seq (.reg [⟨(some 19), .p .move, [.tmp 0], none⟩,
    ⟨(some 5), .p .move, [.tmp 19], none⟩])
  (.seq (.seq (.reg [⟨(some 20), .p .move, [.tmp 5], none⟩,
    ⟨(some 21), .p (.bin .eql), [.tmp 20, .lit (.int .i64 7)], none⟩,
    ⟨(some 22), .p .move, [.tmp 21], none⟩,
    ⟨(some 23), .p .move, [.tmp 5], some (22, false)⟩,
    ⟨(some 24), .p (.bin .eql), [.tmp 23, .lit (.int .i64 8)], some (22, false)⟩,
    ⟨(some 25), .p .pick, [.tmp 22, .lit (.bool true), .tmp 24], none⟩,
    ⟨(some 26), .p .move, [.tmp 25], none⟩,
    ⟨(some 27), .h (.call 10), [], some (26, false)⟩,
    ⟨(some 28), .p .not, [.tmp 27], some (26, false)⟩,
    ⟨(some 29), .p .pick, [.tmp 26, .lit (.bool true), .tmp 28], none⟩])
  (.cond (.tmp 29) (.seq (.reg [⟨(some 30), .h (.call 10), [], none⟩,
    ⟨(some 4), .p .move, [.tmp 30], none⟩])
  .ret)
  .skip))
  (.seq (.reg [⟨(some 31), .h (.call 11), [.lit (.int .i64 100), .lit (.int .i64 3)], none⟩,
    ⟨(some 6), .p .move, [.tmp 31], none⟩])
  (.seq (.seq (.reg [⟨(some 32), .p .move, [.tmp 6], none⟩,
    ⟨(some 33), .p (.eq false .ptr), [.tmp 32, .lit .nilptr], none⟩])
  (.cond (.tmp 33) (.seq (.reg [⟨(some 4), .p .move, [.lit (.bool false)], none⟩])
  .ret)
  .skip))
  (.seq (.reg [⟨(some 34), .p .move, [.tmp 6], none⟩,
    ⟨(some 35), .p (.build [(.int .i64 0), (.str []), (.str []), (.str []), (.int .i64 0)] [(0, 1), (1, 1)]), [.lit (.int .i64 1), .lit (.str [107])], none⟩,
    ⟨(some 36), .h (.call 12), [.tmp 34, .tmp 35, .lit (.int .i64 0)], none⟩])
  (.seq (.reg [⟨(some 38), .p .move, [.tmp 6], none⟩,
    ⟨(some 39), .p (.build [(.int .i64 0), (.str []), .nilslice, (.bool false), (.str []), (.int .i64 0)] [(0, 1), (5, 1)]), [.lit (.int .i64 8), .lit (.int .i64 2)], none⟩,
    ⟨(some 40), .p (.build [(.int .i64 0), (.int .i64 0), (.int .i64 0), (.int .i64 0), (.int .i64 0), (.str []), (.str []), (.str []), (.int .i64 0), (.int .i64 0), (.str []), .nilslice, (.bool false), (.str []), (.int .i64 0), (.int .u64 0), (.int .u64 0), (.int .i64 0), .nilslice, (.int .i64 0), (.int .i64 0)] [(0, 1), (1, 1), (2, 1), (3, 1), (9, 6)]), [.lit (.int .i64 2), .lit (.int .i64 0), .lit (.int .i64 100), .lit (.int .i64 1), .tmp 39], none⟩,
    ⟨(some 41), .h (.call 13), [.tmp 38, .tmp 40], none⟩,
    ⟨(some 37), .p .move, [.tmp 41], none⟩,
    ⟨(some 42), .p (.extract 0), [.tmp 37], none⟩,
    ⟨(some 43), .p (.extract 1), [.tmp 37], none⟩,
    ⟨(some 7), .p .move, [.tmp 42], none⟩,
    ⟨(some 8), .p .move, [.tmp 43], none⟩])
  (.seq (.reg [⟨(some 45), .p .move, [.tmp 6], none⟩,
    ⟨(some 46), .p (.build [(.int .i64 0), (.str []), .nilslice, (.bool false), (.str []), (.int .i64 0)] [(1, 1)]), [.lit (.str [111, 108, 100])], none⟩,
    ⟨(some 47), .p (.build [(.int .i64 0), (.int .i64 0), (.int .i64 0), (.int .i64 0), (.int .i64 0), (.str []), (.str []), (.str []), (.int .i64 0), (.int .i64 0), (.str []), .nilslice, (.bool false), (.str []), (.int .i64 0), (.int .u64 0), (.int .u64 0), (.int .i64 0), .nilslice, (.int .i64 0), (.int .i64 0)] [(0, 1), (1, 1), (2, 1), (3, 1), (9, 6)]), [.lit (.int .i64 2), .lit (.int .i64 0), .lit (.int .i64 100), .lit (.int .i64 1), .tmp 46], none⟩,
    ⟨(some 48), .h (.call 13), [.tmp 45, .tmp 47], none⟩,
    ⟨(some 44), .p .move, [.tmp 48], none⟩,
    ⟨(some 49), .p (.extract 0), [.tmp 44], none⟩,
    ⟨(some 50), .p (.extract 1), [.tmp 44], none⟩,
    ⟨(some 9), .p .move, [.tmp 49], none⟩,
    ⟨(some 10), .p .move, [.tmp 50], none⟩])
  (.seq (.reg [⟨(some 52), .p .move, [.tmp 6], none⟩,
    ⟨(some 53), .p (.build [(.int .i64 0), (.str []), .nilslice, (.bool false), (.str []), (.int .i64 0)] [(1, 1)]), [.lit (.str [111, 116, 104, 101, 114])], none⟩,
    ⟨(some 54), .p (.build [(.int .i64 0), (.int .i64 0), (.int .i64 0), (.int .i64 0), (.int .i64 0), (.str []), (.str []), (.str []), (.int .i64 0), (.int .i64 0), (.str []), .nilslice, (.bool false), (.str []), (.int .i64 0), (.int .u64 0), (.int .u64 0), (.int .i64 0), .nilslice, (.int .i64 0), (.int .i64 0)] [(0, 1), (1, 1), (2, 1), (3, 1), (9, 6)]), [.lit (.int .i64 2), .lit (.int .i64 1), .lit (.int .i64 100), .lit (.int .i64 2), .tmp 53], none⟩,
    ⟨(some 55), .h (.call 13), [.tmp 52, .tmp 54], none⟩,
    ⟨(some 51), .p .move, [.tmp 55], none⟩,
    ⟨(some 56), .p (.extract 0), [.tmp 51], none⟩,
    ⟨(some 57), .p (.extract 1), [.tmp 51], none⟩,
    ⟨(some 11), .p .move, [.tmp 56], none⟩,
    ⟨(some 12), .p .move, [.tmp 57], none⟩])
  (.seq (.reg [⟨(some 59), .p .move, [.tmp 6], none⟩,
    ⟨(some 60), .p .move, [.tmp 5], none⟩,
    ⟨(some 61), .p .move, [.tmp 1], none⟩,
    ⟨(some 62), .p (.build [(.int .i64 0), (.str []), .nilslice, (.bool false), (.str []), (.int .i64 0)] [(0, 1), (1, 1)]), [.tmp 60, .tmp 61], none⟩,
    ⟨(some 63), .p (.build [(.int .i64 0), (.int .i64 0), (.int .i64 0), (.int .i64 0), (.int .i64 0), (.str []), (.str []), (.str []), (.int .i64 0), (.int .i64 0), (.str []), .nilslice, (.bool false), (.str []), (.int .i64 0), (.int .u64 0), (.int .u64 0), (.int .i64 0), .nilslice, (.int .i64 0), (.int .i64 0)] [(0, 1), (1, 1), (2, 1), (3, 1), (9, 6)]), [.lit (.int .i64 2), .lit (.int .i64 2), .lit (.int .i64 100), .lit (.int .i64 2), .tmp 62], none⟩,
    ⟨(some 64), .h (.call 13), [.tmp 59, .tmp 63], none⟩,
    ⟨(some 58), .p .move, [.tmp 64], none⟩,
    ⟨(some 65), .p (.extract 0), [.tmp 58], none⟩,
    ⟨(some 66), .p (.extract 1), [.tmp 58], none⟩,
    ⟨(some 13), .p .move, [.tmp 65], none⟩,
    ⟨(some 14), .p .move, [.tmp 66], none⟩])
  (.seq (.reg [⟨(some 68), .p .move, [.tmp 6], none⟩,
    ⟨(some 69), .p (.build [(.int .i64 0), (.str []), .nilslice, (.bool false), (.str []), (.int .i64 0)] [(1, 1)]), [.lit (.str [97, 103, 97, 105, 110])], none⟩,
    ⟨(some 70), .p (.build [(.int .i64 0), (.int .i64 0), (.int .i64 0), (.int .i64 0), (.int .i64 0), (.str []), (.str []), (.str []), (.int .i64 0), (.int .i64 0), (.str []), .nilslice, (.bool false), (.str []), (.int .i64 0), (.int .u64 0), (.int .u64 0), (.int .i64 0), .nilslice, (.int .i64 0), (.int .i64 0)] [(0, 1), (1, 1), (2, 1), (3, 1), (9, 6)]), [.lit (.int .i64 2), .lit (.int .i64 2), .lit (.int .i64 100), .lit (.int .i64 2), .tmp 69], none⟩,
    ⟨(some 71), .h (.call 13), [.tmp 68, .tmp 70], none⟩,
    ⟨(some 67), .p .move, [.tmp 71], none⟩,
    ⟨(some 72), .p (.extract 0), [.tmp 67], none⟩,
    ⟨(some 73), .p (.extract 1), [.tmp 67], none⟩,
    ⟨(some 15), .p .move, [.tmp 72], none⟩,
    ⟨(some 16), .p .move, [.tmp 73], none⟩])
  (.seq (.reg [⟨(some 75), .p .move, [.tmp 6], none⟩,
    ⟨(some 76), .h (.call 14), [.tmp 75], none⟩,
    ⟨(some 74), .p .move, [.tmp 76], none⟩,
    ⟨(some 77), .p (.extract 0), [.tmp 74], none⟩,
    ⟨(some 78), .p (.extract 1), [.tmp 74], none⟩,
    ⟨(some 17), .a (.alloc [(.int .i64 0), (.str []), .nilslice, (.bool false), (.str []), (.int .i64 0)]), [], none⟩,
    ⟨none, .h (.store 6), [.tmp 17, .tmp 77], none⟩,
    ⟨(some 18), .p .move, [.tmp 78], none⟩])
  (.seq (.reg [⟨(some 79), .p .move, [.tmp 7], none⟩,
    ⟨(some 80), .p .lenSl, [.tmp 79], none⟩,
    ⟨(some 81), .p (.bin .eql), [.tmp 80, .lit (.int .i64 1)], none⟩,
    ⟨(some 82), .p .move, [.tmp 81], none⟩,
    ⟨(some 83), .p .move, [.tmp 10], some (82, true)⟩,
    ⟨(some 84), .p .not, [.tmp 83], some (82, true)⟩,
    ⟨(some 85), .p .pick, [.tmp 82, .tmp 84, .lit (.bool false)], none⟩,
    ⟨(some 86), .p .move, [.tmp 85], none⟩,
    ⟨(some 87), .p .move, [.tmp 12], some (86, true)⟩,
    ⟨(some 88), .p .not, [.tmp 87], some (86, true)⟩,
    ⟨(some 89), .p .pick, [.tmp 86, .tmp 88, .lit (.bool false)], none⟩,
    ⟨(some 90), .p .move, [.tmp 89], none⟩,
    ⟨(some 91), .p .move, [.tmp 14], some (90, true)⟩,
    ⟨(some 92), .p .pick, [.tmp 90, .tmp 91, .lit (.bool false)], none⟩,
    ⟨(some 93), .p .move, [.tmp 92], none⟩,
    ⟨(some 94), .p .move, [.tmp 16], some (93, true)⟩,
    ⟨(some 95), .p .not, [.tmp 94], some (93, true)⟩,
    ⟨(some 96), .p .pick, [.tmp 93, .tmp 95, .lit (.bool false)], none⟩,
    ⟨(some 97), .p .move, [.tmp 96], none⟩,
    ⟨(some 98), .p .move, [.tmp 18], some (97, true)⟩,
    ⟨(some 99), .p .pick, [.tmp 97, .tmp 98, .lit (.bool false)], none⟩,
    ⟨(some 100), .p .move, [.tmp 99], none⟩,
    ⟨(some 101), .p (.fieldAddr 0), [.tmp 17], some (100, true)⟩,
    ⟨(some 102), .r (.load none), [.tmp 101], some (100, true)⟩,
    ⟨(some 103), .p .move, [.tmp 5], some (100, true)⟩,
    ⟨(some 104), .p (.bin .eql), [.tmp 102, .tmp 103], some (100, true)⟩,
    ⟨(some 105), .p .pick, [.tmp 100, .tmp 104, .lit (.bool false)], none⟩,
    ⟨(some 106), .p .move, [.tmp 105], none⟩,
    ⟨(some 107), .p (.fieldAddr 1), [.tmp 17], some (106, true)⟩,
    ⟨(some 108), .r (.load none), [.tmp 107], some (106, true)⟩,
    ⟨(some 109), .p .move, [.tmp 1], some (106, true)⟩,
    ⟨(some 110), .p (.bin .eql), [.tmp 108, .tmp 109], some (106, true)⟩,
    ⟨(some 111), .p .pick, [.tmp 106, .tmp 110, .lit (.bool false)], none⟩,
    ⟨(some 4), .p .move, [.tmp 111], none⟩])
  .ret))))))))))))), [.tmp 4]⟩
theorem c3 : cFunc Go.Proofs.Try.prog false 2 Go.Proofs.Try.f3 = some sf3 := by kernel_rfl
def ss3 : List Sh := [(.int .i64), .str]
theorem cs3 : shsOf Go.Proofs.Try.prog 12 Go.Proofs.Try.f3.params.toList = some ss3 := by kernel_rfl

/-- rosary/rosarylaw21.GuestMay -/
def sf4 : SFunc := ⟨3, 110, (.seq (.reg [⟨(some 3), .a .box, [.tmp 0], none⟩,
    ⟨(some 6), .p .move, [.lit (.bool false)], none⟩])
  (.seq (.seq (.reg [⟨(some 13), .p (.fieldAddr 1), [.tmp 3], none⟩,
    ⟨(some 14), .r (.load none), [.tmp 13], none⟩,
    ⟨(some 15), .p .lenStr, [.tmp 14], none⟩,
    ⟨(some 16), .p (.bin .gtr), [.tmp 15, .lit (.int .i64 60)], none⟩,
    ⟨(some 17), .p .move, [.tmp 16], none⟩,
    ⟨(some 18), .p (.fieldAddr 2), [.tmp 3], some (17, false)⟩,
    ⟨(some 19), .r (.load none), [.tmp 18], some (17, false)⟩,
    ⟨(some 20), .p .lenStr, [.tmp 19], some (17, false)⟩,
    ⟨(some 21), .p (.bin .gtr), [.tmp 20, .lit (.int .i64 60)], some (17, false)⟩,
    ⟨(some 22), .p .pick, [.tmp 17, .lit (.bool true), .tmp 21], none⟩,
    ⟨(some 23), .p .move, [.tmp 22], none⟩,
    ⟨(some 24), .h (.call 10), [], some (23, false)⟩,
    ⟨(some 25), .p .not, [.tmp 24], some (23, false)⟩,
    ⟨(some 26), .p .pick, [.tmp 23, .lit (.bool true), .tmp 25], none⟩])
  (.cond (.tmp 26) (.seq (.reg [⟨(some 27), .h (.call 10), [], none⟩,
    ⟨(some 6), .p .move, [.tmp 27], none⟩])
  .ret)
  .skip))
  (.seq (.reg [⟨(some 28), .p .move, [.tmp 2], none⟩,
    ⟨(some 29), .h (.call 11), [.lit (.int .i64 9), .tmp 28], none⟩,
    ⟨(some 7), .p .move, [.tmp 29], none⟩])
  (.seq (.seq (.reg [⟨(some 30), .p .move, [.tmp 7], none⟩,
    ⟨(some 31), .p (.eq false .ptr), [.tmp 30, .lit .nilptr], none⟩])
  (.cond (.tmp 31) (.seq (.reg [⟨(some 32), .p .move, [.tmp 2], none⟩,
    ⟨(some 33), .p (.bin .lss), [.tmp 32, .lit (.int .i64 1)], none⟩,
    ⟨(some 34), .p .move, [.tmp 33], none⟩,
    ⟨(some 35), .p .move, [.tmp 2], some (34, false)⟩,
    ⟨(some 36), .p (.bin .gtr), [.tmp 35, .lit (.int .i64 16)], some (34, false)⟩,
    ⟨(some 37), .p .pick, [.tmp 34, .lit (.bool true), .tmp 36], none⟩,
    ⟨(some 6), .p .move, [.tmp 37], none⟩])
  .ret)
  .skip))
  (.seq (.reg [⟨(some 39), .p .move, [.tmp 7], none⟩,
    ⟨(some 40), .r (.load (some 5)), [.tmp 3], none⟩,
    ⟨(some 41), .p .move, [.tmp 1], none⟩,
    ⟨(some 42), .h (.call 12), [.tmp 39, .tmp 40, .tmp 41], none⟩,
    ⟨(some 38), .p .move, [.tmp 42], none⟩,
    ⟨(some 43), .p (.extract 0), [.tmp 38], none⟩,
    ⟨(some 44), .p (.extract 1), [.tmp 38], none⟩,
    ⟨(some 8), .p .move, [.tmp 43], none⟩,
    ⟨(some 9), .p .move, [.tmp 44], none⟩])
  (.seq (.reg [⟨(some 45), .p (.fieldAddr 0), [.tmp 3], none⟩,
    ⟨(some 46), .r (.load none), [.tmp 45], none⟩,
    ⟨(some 47), .p (.bin .geq), [.tmp 46, .lit (.int .i64 1)], none⟩,
    ⟨(some 48), .p .move, [.tmp 47], none⟩,
    ⟨(some 49), .p (.fieldAddr 0), [.tmp 3], some (48, true)⟩,
    ⟨(some 50), .r (.load none), [.tmp 49], some (48, true)⟩,
    ⟨(some 51), .p (.bin .leq), [.tmp 50, .lit (.int .i64 3)], some (48, true)⟩,
    ⟨(some 52), .p .pick, [.tmp 48, .tmp 51, .lit (.bool false)], none⟩,
    ⟨(some 53), .p .move, [.tmp 52], none⟩,
    ⟨(some 54), .p .move, [.tmp 1], some (53, true)⟩,
    ⟨(some 55), .p (.bin .geq), [.tmp 54, .lit (.int .i64 0)], some (53, true)⟩,
    ⟨(some 56), .p .pick, [.tmp 53, .tmp 55, .lit (.bool false)], none⟩,
    ⟨(some 57), .p .move, [.tmp 56], none⟩,
    ⟨(some 58), .p .move, [.tmp 1], some (57, true)⟩,
    ⟨(some 59), .p .move, [.tmp 2], some (57, true)⟩,
    ⟨(some 60), .p (.bin .lss), [.tmp 58, .tmp 59], some (57, true)⟩,
    ⟨(some 61), .p .pick, [.tmp 57, .tmp 60, .lit (.bool false)], none⟩,
    ⟨(some 10), .p .move, [.tmp 61], none⟩])
  (.seq (.reg [⟨(some 63), .p .move, [.tmp 7], none⟩,
    ⟨(some 64), .r (.load (some 5)), [.tmp 3], none⟩,
    ⟨(some 65), .p .move, [.tmp 1], none⟩,
    ⟨(some 66), .h (.call 12), [.tmp 63, .tmp 64, .tmp 65], none⟩,
    ⟨(some 62), .p .move, [.tmp 66], none⟩,
    ⟨(some 67), .p (.extract 0), [.tmp 62], none⟩,
    ⟨(some 68), .p (.extract 1), [.tmp 62], none⟩,
    ⟨(some 11), .p .move, [.tmp 67], none⟩,
    ⟨(some 12), .p .move, [.tmp 68], none⟩])
  (.seq (.dreg [⟨[⟨(some 69), .p .move, [.tmp 9], none⟩,
    ⟨(some 70), .p .move, [.tmp 10], none⟩,
    ⟨(some 71), .p (.eq false .bool), [.tmp 69, .tmp 70], none⟩,
    ⟨(some 72), .p .move, [.tmp 71], none⟩,
    ⟨(some 73), .p .move, [.tmp 8], some (72, true)⟩,
    ⟨(some 74), .p .lenSl, [.tmp 73], some (72, true)⟩,
    ⟨(some 75), .p (.bin .eql), [.tmp 74, .lit (.int .i64 1)], some (72, true)⟩,
    ⟨(some 76), .p .move, [.tmp 10], some (72, true)⟩,
    ⟨(some 77), .p (.eq false .bool), [.tmp 75, .tmp 76], some (72, true)⟩,
    ⟨(some 78), .p .pick, [.tmp 72, .tmp 77, .lit (.bool false)], none⟩,
    ⟨(some 79), .p .move, [.tmp 78], none⟩,
    ⟨(some 80), .p .move, [.tmp 12], some (79, true)⟩,
    ⟨(some 81), .p .not, [.tmp 80], some (79, true)⟩,
    ⟨(some 82), .p .pick, [.tmp 79, .tmp 81, .lit (.bool false)], none⟩,
    ⟨(some 83), .p .move, [.tmp 82], none⟩,
    ⟨(some 84), .p .move, [.tmp 10], some (83, true)⟩,
    ⟨(some 85), .p .not, [.tmp 84], some (83, true)⟩,
    ⟨(some 86), .p .move, [.tmp 85], some (83, true)⟩,
    ⟨(some 87), .p .move, [.tmp 8], some (86, false)⟩,
    ⟨(some 88), .p (.indexAddr 21), [.tmp 87, .lit (.int .i64 0)], some (86, false)⟩,
    ⟨(some 89), .p (.fieldAddr 2), [.tmp 88], some (86, false)⟩,
    ⟨(some 90), .r (.load none), [.tmp 89], some (86, false)⟩,
    ⟨(some 91), .p .move, [.tmp 1], some (86, false)⟩,
    ⟨(some 92), .p (.bin .eql), [.tmp 90, .tmp 91], some (86, false)⟩,
    ⟨(some 93), .p .move, [.tmp 92], some (86, false)⟩,
    ⟨(some 94), .p .move, [.tmp 8], some (93, true)⟩,
    ⟨(some 95), .p (.indexAddr 21), [.tmp 94, .lit (.int .i64 0)], some (93, true)⟩,
    ⟨(some 96), .p (.fieldAddr 4), [.tmp 95], some (93, true)⟩,
    ⟨(some 97), .r (.load (some 5)), [.tmp 96], some (93, true)⟩,
    ⟨(some 98), .r (.load (some 5)), [.tmp 3], some (93, true)⟩,
    ⟨(some 99), .p (.eq false (.agg [.int, .str, .str, .str, .int])), [.tmp 97, .tmp 98], some (93, true)⟩,
    ⟨(some 100), .p .pick, [.tmp 93, .tmp 99, .lit (.bool false)], some (86, false)⟩,
    ⟨(some 101), .p .move, [.tmp 100], some (86, false)⟩,
    ⟨(some 102), .p .move, [.tmp 8], some (101, true)⟩,
    ⟨(some 103), .p (.indexAddr 21), [.tmp 102, .lit (.int .i64 0)], some (101, true)⟩,
    ⟨(some 104), .p (.fieldAddr 1), [.tmp 103], some (101, true)⟩,
    ⟨(some 105), .r (.load none), [.tmp 104], some (101, true)⟩,
    ⟨(some 106), .p (.bin .eql), [.tmp 105, .lit (.int .i64 9)], some (101, true)⟩,
    ⟨(some 107), .p .pick, [.tmp 101, .tmp 106, .lit (.bool false)], some (86, false)⟩,
    ⟨(some 108), .p .pick, [.tmp 86, .lit (.bool true), .tmp 107], some (83, true)⟩,
    ⟨(some 109), .p .pick, [.tmp 83, .tmp 108, .lit (.bool false)], none⟩,
    ⟨(some 6), .p .move, [.tmp 109], none⟩], [], none⟩])
  .ret)))))))), [.tmp 6]⟩
theorem c4 : cFunc Go.Proofs.Try.prog false 3 Go.Proofs.Try.f4 = some sf4 := by kernel_rfl
def ss4 : List Sh := [(.st [(.int .i64), .str, .str, .str, (.int .i64)]), (.int .i64), (.int .i64)]
theorem cs4 : shsOf Go.Proofs.Try.prog 12 Go.Proofs.Try.f4.params.toList = some ss4 := by kernel_rfl

/-- rosary/rosarylaw21.GuestRounds -/
def sf5 : SFunc := ⟨2, 115, (.seq (.reg [⟨(some 4), .p .move, [.lit (.bool false)], none⟩])
  (.seq (.seq (.reg [⟨(some 13), .p .move, [.tmp 0], none⟩,
    ⟨(some 14), .p (.bin .lss), [.tmp 13, .lit (.int .i64 1)], none⟩,
    ⟨(some 15), .p .move, [.tmp 14], none⟩,
    ⟨(some 16), .p .move, [.tmp 0], some (15, false)⟩,
    ⟨(some 17), .p (.bin .gtr), [.tmp 16, .lit (.int .i64 16)], some (15, false)⟩,
    ⟨(some 18), .p .pick, [.tmp 15, .lit (.bool true), .tmp 17], none⟩,
    ⟨(some 19), .p .move, [.tmp 18], none⟩,
    ⟨(some 20), .p .move, [.tmp 1], some (19, false)⟩,
    ⟨(some 21), .p (.bin .lss), [.tmp 20, .lit (.int .i64 0)], some (19, false)⟩,
    ⟨(some 22), .p .pick, [.tmp 19, .lit (.bool true), .tmp 21], none⟩,
    ⟨(some 23), .p .move, [.tmp 22], none⟩,
    ⟨(some 24), .p .move, [.tmp 1], some (23, false)⟩,
    ⟨(some 25), .p .move, [.tmp 0], some (23, false)⟩,
    ⟨(some 26), .p (.bin .geq), [.tmp 24, .tmp 25], some (23, false)⟩,
    ⟨(some 27), .p .pick, [.tmp 23, .lit (.bool true), .tmp 26], none⟩,
    ⟨(some 28), .p .move, [.tmp 27], none⟩,
    ⟨(some 29), .h (.call 10), [], some (28, false)⟩,
    ⟨(some 30), .p .not, [.tmp 29], some (28, false)⟩,
    ⟨(some 31), .p .pick, [.tmp 28, .lit (.bool true), .tmp 30], none⟩])
  (.cond (.tmp 31) (.seq (.reg [⟨(some 32), .h (.call 10), [], none⟩,
    ⟨(some 4), .p .move, [.tmp 32], none⟩])
  .ret)
  .skip))
  (.seq (.reg [⟨(some 33), .p .move, [.tmp 0], none⟩,
    ⟨(some 34), .h (.call 11), [.lit (.int .i64 100), .tmp 33], none⟩,
    ⟨(some 5), .p .move, [.tmp 34], none⟩])
  (.seq (.seq (.reg [⟨(some 35), .p .move, [.tmp 5], none⟩,
    ⟨(some 36), .p (.eq false .ptr), [.tmp 35, .lit .nilptr], none⟩])
  (.cond (.tmp 36) (.seq (.reg [⟨(some 4), .p .move, [.lit (.bool false)], none⟩])
  .ret)
  .skip))
  (.seq (.reg [⟨(some 38), .p .move, [.tmp 5], none⟩,
    ⟨(some 39), .p (.build [(.int .i64 0), (.str []), (.str []), (.str []), (.int .i64 0)] [(0, 1), (1, 1)]), [.lit (.int .i64 1), .lit (.str [107])], none⟩,
    ⟨(some 40), .p .move, [.tmp 1], none⟩,
    ⟨(some 41), .h (.call 12), [.tmp 38, .tmp 39, .tmp 40], none⟩,
    ⟨(some 37), .p .move, [.tmp 41], none⟩,
    ⟨(some 42), .p (.extract 0), [.tmp 37], none⟩,
    ⟨(some 43), .p (.extract 1), [.tmp 37], none⟩,
    ⟨(some 6), .p .move, [.tmp 42], none⟩,
    ⟨(some 7), .p .move, [.tmp 43], none⟩])
  (.seq (.seq (.reg [⟨(some 8), .p .move, [.lit (.int .i64 1)], none⟩])
  (.block 0 (.loop [0, 1, 5, 6, 7, 8] (.seq (.seq (.reg [⟨(some 44), .p .move, [.tmp 8], none⟩,
    ⟨(some 45), .p (.bin .lss), [.tmp 44, .lit (.int .i64 8)], none⟩])
  (.cond (.tmp 45) .skip
  (.exit 0)))
  (.seq (.block 1 (.seq (.seq (.dreg [⟨[⟨(some 48), .p .move, [.tmp 7], none⟩,
    ⟨(some 49), .p .not, [.tmp 48], none⟩,
    ⟨(some 50), .p .move, [.tmp 49], none⟩,
    ⟨(some 51), .p .move, [.tmp 6], some (50, false)⟩,
    ⟨(some 52), .p .lenSl, [.tmp 51], some (50, false)⟩,
    ⟨(some 53), .p (.bin .neq), [.tmp 52, .lit (.int .i64 1)], some (50, false)⟩,
    ⟨(some 54), .p .pick, [.tmp 50, .lit (.bool true), .tmp 53], none⟩,
    ⟨(some 55), .p .move, [.tmp 54], none⟩,
    ⟨(some 56), .p .move, [.tmp 6], some (55, false)⟩,
    ⟨(some 57), .p (.indexAddr 21), [.tmp 56, .lit (.int .i64 0)], some (55, false)⟩,
    ⟨(some 58), .p (.fieldAddr 2), [.tmp 57], some (55, false)⟩,
    ⟨(some 59), .r (.load none), [.tmp 58], some (55, false)⟩,
    ⟨(some 60), .p .move, [.tmp 1], some (55, false)⟩,
    ⟨(some 61), .p .move, [.tmp 8], some (55, false)⟩,
    ⟨(some 62), .p (.bin .add), [.tmp 60, .tmp 61], some (55, false)⟩,
    ⟨(some 63), .p (.bin .sub), [.tmp 62, .lit (.int .i64 1)], some (55, false)⟩,
    ⟨(some 64), .p .move, [.tmp 0], some (55, false)⟩,
    ⟨(some 65), .p (.bin .rem), [.tmp 63, .tmp 64], some (55, false)⟩,
    ⟨(some 66), .p (.bin .neq), [.tmp 59, .tmp 65], some (55, false)⟩,
    ⟨(some 67), .p .pick, [.tmp 55, .lit (.bool true), .tmp 66], none⟩], [], none⟩])
  (.cond (.tmp 67) (.seq (.reg [⟨(some 4), .p .move, [.lit (.bool false)], none⟩])
  .ret)
  .skip))
  (.dreg [⟨[⟨(some 69), .p .move, [.tmp 5], none⟩,
    ⟨(some 70), .p .move, [.tmp 6], none⟩,
    ⟨(some 71), .p (.indexAddr 21), [.tmp 70, .lit (.int .i64 0)], none⟩,
    ⟨(some 72), .p (.fieldAddr 2), [.tmp 71], none⟩,
    ⟨(some 73), .r (.load none), [.tmp 72], none⟩,
    ⟨(some 74), .p .move, [.tmp 6], none⟩,
    ⟨(some 75), .p (.indexAddr 21), [.tmp 74, .lit (.int .i64 0)], none⟩,
    ⟨(some 76), .p (.fieldAddr 3), [.tmp 75], none⟩,
    ⟨(some 77), .r (.load none), [.tmp 76], none⟩,
    ⟨(some 78), .p (.build [(.int .i64 0), (.str []), .nilslice, (.bool false), (.str []), (.int .i64 0)] [(0, 1), (5, 1)]), [.lit (.int .i64 8), .lit (.int .i64 (-1))], none⟩,
    ⟨(some 79), .p (.build [(.int .i64 0), (.int .i64 0), (.int .i64 0), (.int .i64 0), (.int .i64 0), (.str []), (.str []), (.str []), (.int .i64 0), (.int .i64 0), (.str []), .nilslice, (.bool false), (.str []), (.int .i64 0), (.int .u64 0), (.int .u64 0), (.int .i64 0), .nilslice, (.int .i64 0), (.int .i64 0)] [(0, 1), (1, 1), (2, 1), (3, 1), (9, 6)]), [.lit (.int .i64 2), .tmp 73, .lit (.int .i64 100), .tmp 77, .tmp 78], none⟩], [], some ⟨(some 80), .h (.call 13), [.tmp 69, .tmp 79], none⟩⟩,
   ⟨[⟨(some 68), .p .move, [.tmp 80], none⟩,
    ⟨(some 81), .p (.extract 0), [.tmp 68], none⟩,
    ⟨(some 82), .p (.extract 1), [.tmp 68], none⟩,
    ⟨(some 6), .p .move, [.tmp 81], none⟩], [], none⟩])))
  (.reg [⟨(some 46), .p .move, [.tmp 8], none⟩,
    ⟨(some 47), .p (.bin .add), [.tmp 46, .lit (.int .i64 1)], none⟩,
    ⟨(some 8), .p .move, [.tmp 47], none⟩]))))))
  (.seq (.seq (.reg [⟨(some 83), .p .move, [.tmp 6], none⟩,
    ⟨(some 84), .p .lenSl, [.tmp 83], none⟩,
    ⟨(some 85), .p (.bin .neq), [.tmp 84, .lit (.int .i64 1)], none⟩])
  (.cond (.tmp 85) (.seq (.reg [⟨(some 4), .p .move, [.lit (.bool false)], none⟩])
  .ret)
  .skip))
  (.seq (.dreg [⟨[⟨(some 87), .p .move, [.tmp 5], none⟩,
    ⟨(some 88), .p .move, [.tmp 6], none⟩,
    ⟨(some 89), .p (.indexAddr 21), [.tmp 88, .lit (.int .i64 0)], none⟩,
    ⟨(some 90), .p (.fieldAddr 2), [.tmp 89], none⟩,
    ⟨(some 91), .r (.load none), [.tmp 90], none⟩,
    ⟨(some 92), .p .move, [.tmp 6], none⟩,
    ⟨(some 93), .p (.indexAddr 21), [.tmp 92, .lit (.int .i64 0)], none⟩,
    ⟨(some 94), .p (.fieldAddr 3), [.tmp 93], none⟩,
    ⟨(some 95), .r (.load none), [.tmp 94], none⟩,
    ⟨(some 96), .p (.build [(.int .i64 0), (.str []), .nilslice, (.bool false), (.str []), (.int .i64 0)] [(0, 1), (5, 1)]), [.lit (.int .i64 8), .lit (.int .i64 (-1))], none⟩,
    ⟨(some 97), .p (.build [(.int .i64 0), (.int .i64 0), (.int .i64 0), (.int .i64 0), (.int .i64 0), (.str []), (.str []), (.str []), (.int .i64 0), (.int .i64 0), (.str []), .nilslice, (.bool false), (.str []), (.int .i64 0), (.int .u64 0), (.int .u64 0), (.int .i64 0), .nilslice, (.int .i64 0), (.int .i64 0)] [(0, 1), (1, 1), (2, 1), (3, 1), (9, 6)]), [.lit (.int .i64 2), .tmp 91, .lit (.int .i64 100), .tmp 95, .tmp 96], none⟩], [], some ⟨(some 98), .h (.call 13), [.tmp 87, .tmp 97], none⟩⟩,
   ⟨[⟨(some 86), .p .move, [.tmp 98], none⟩,
    ⟨(some 99), .p (.extract 0), [.tmp 86], none⟩,
    ⟨(some 100), .p (.extract 1), [.tmp 86], none⟩,
    ⟨(some 9), .p .move, [.tmp 99], none⟩,
    ⟨(some 10), .p .move, [.tmp 100], none⟩], [], none⟩])
  (.seq (.reg [⟨(some 102), .p .move, [.tmp 5], none⟩,
    ⟨(some 103), .h (.call 14), [.tmp 102], none⟩,
    ⟨(some 101), .p .move, [.tmp 103], none⟩,
    ⟨(some 104), .p (.extract 0), [.tmp 101], none⟩,
    ⟨(some 105), .p (.extract 1), [.tmp 101], none⟩,
    ⟨(some 11), .a (.alloc [(.int .i64 0), (.str []), .nilslice, (.bool false), (.str []), (.int .i64 0)]), [], none⟩,
    ⟨none, .h (.store 6), [.tmp 11, .tmp 104], none⟩,
    ⟨(some 12), .p .move, [.tmp 105], none⟩])
  (.seq (.reg [⟨(some 106), .p .move, [.tmp 10], none⟩,
    ⟨(some 107), .p .move, [.tmp 106], none⟩,
    ⟨(some 108), .p .move, [.tmp 12], some (107, true)⟩,
    ⟨(some 109), .p .pick, [.tmp 107, .tmp 108, .lit (.bool false)], none⟩,
    ⟨(some 110), .p .move, [.tmp 109], none⟩,
    ⟨(some 111), .p (.fieldAddr 0), [.tmp 11], some (110, true)⟩,
    ⟨(some 112), .r (.load none), [.tmp 111], some (110, true)⟩,
    ⟨(some 113), .p (.bin .eql), [.tmp 112, .lit (.int .i64 9)], some (110, true)⟩,
    ⟨(some 114), .p .pick, [.tmp 110, .tmp 113, .lit (.bool false)], none⟩,
    ⟨(some 4), .p .move, [.tmp 114], none⟩])
  .ret)))))))))), [.tmp 4]⟩
theorem c5 : cFunc Go.Proofs.Try.prog false 2 Go.Proofs.Try.f5 = some sf5 := by kernel_rfl
def ss5 : List Sh := [(.int .i64), (.int .i64)]
theorem cs5 : shsOf Go.Proofs.Try.prog 12 Go.Proofs.Try.f5.params.toList = some ss5 := by kernel_rfl

/-- rosary/rosarylaw21.GuestEnds -/
def sf6 : SFunc := ⟨2, 104, (.seq (.reg [⟨(some 4), .p .move, [.lit (.bool false)], none⟩])
  (.seq (.seq (.reg [⟨(some 16), .p .move, [.tmp 0], none⟩,
    ⟨(some 17), .p (.bin .lss), [.tmp 16, .lit (.int .i64 0)], none⟩,
    ⟨(some 18), .p .move, [.tmp 17], none⟩,
    ⟨(some 19), .p .move, [.tmp 0], some (18, false)⟩,
    ⟨(some 20), .p (.bin .gtr), [.tmp 19, .lit (.int .i64 2)], some (18, false)⟩,
    ⟨(some 21), .p .pick, [.tmp 18, .lit (.bool true), .tmp 20], none⟩,
    ⟨(some 22), .p .move, [.tmp 21], none⟩,
    ⟨(some 23), .p .move, [.tmp 1], some (22, false)⟩,
    ⟨(some 24), .p .lenSl, [.tmp 23], some (22, false)⟩,
    ⟨(some 25), .p (.bin .gtr), [.tmp 24, .lit (.int .i64 60)], some (22, false)⟩,
    ⟨(some 26), .p .pick, [.tmp 22, .lit (.bool true), .tmp 25], none⟩,
    ⟨(some 27), .p .move, [.tmp 26], none⟩,
    ⟨(some 28), .h (.call 10), [], some (27, false)⟩,
    ⟨(some 29), .p .not, [.tmp 28], some (27, false)⟩,
    ⟨(some 30), .p .pick, [.tmp 27, .lit (.bool true), .tmp 29], none⟩])
  (.cond (.tmp 30) (.seq (.reg [⟨(some 31), .h (.call 10), [], none⟩,
    ⟨(some 4), .p .move, [.tmp 31], none⟩])
  .ret)
  .skip))
  (.seq (.reg [⟨(some 32), .h (.call 11), [.lit (.int .i64 100), .lit (.int .i64 3)], none⟩,
    ⟨(some 5), .p .move, [.tmp 32], none⟩])
  (.seq (.seq (.reg [⟨(some 33), .p .move, [.tmp 5], none⟩,
    ⟨(some 34), .p (.eq false .ptr), [.tmp 33, .lit .nilptr], none⟩])
  (.cond (.tmp 34) (.seq (.reg [⟨(some 4), .p .move, [.lit (.bool false)], none⟩])
  .ret)
  .skip))
  (.seq (.reg [⟨(some 36), .p .move, [.tmp 5], none⟩,
    ⟨(some 37), .p (.build [(.int .i64 0), (.str []), (.str []), (.str []), (.int .i64 0)] [(0, 1), (1, 1), (2, 1)]), [.lit (.int .i64 2), .lit (.str [107]), .lit (.str [118])], none⟩,
    ⟨(some 38), .p .move, [.tmp 0], none⟩,
    ⟨(some 39), .h (.call 12), [.tmp 36, .tmp 37, .tmp 38], none⟩,
    ⟨(some 35), .p .move, [.tmp 39], none⟩,
    ⟨(some 40), .p (.extract 0), [.tmp 35], none⟩,
    ⟨(some 41), .p (.extract 1), [.tmp 35], none⟩,
    ⟨(some 6), .p .move, [.tmp 40], none⟩,
    ⟨(some 7), .p .move, [.tmp 41], none⟩])
  (.seq (.seq (.reg [⟨(some 42), .p .move, [.tmp 7], none⟩,
    ⟨(some 43), .p .not, [.tmp 42], none⟩,
    ⟨(some 44), .p .move, [.tmp 43], none⟩,
    ⟨(some 45), .p .move, [.tmp 6], some (44, false)⟩,
    ⟨(some 46), .p .lenSl, [.tmp 45], some (44, false)⟩,
    ⟨(some 47), .p (.bin .neq), [.tmp 46, .lit (.int .i64 1)], some (44, false)⟩,
    ⟨(some 48), .p .pick, [.tmp 44, .lit (.bool true), .tmp 47], none⟩])
  (.cond (.tmp 48) (.seq (.reg [⟨(some 4), .p .move, [.lit (.bool false)], none⟩])
  .ret)
  .skip))
  (.seq (.reg [⟨(some 49), .p .move, [.tmp 6], none⟩,
    ⟨(some 50), .p (.indexAddr 21), [.tmp 49, .lit (.int .i64 0)], none⟩,
    ⟨(some 51), .r (.load (some 21)), [.tmp 50], none⟩,
    ⟨(some 8), .a (.alloc [(.int .i64 0), (.int .i64 0), (.int .i64 0), (.int .i64 0), (.int .i64 0), (.str []), (.str []), (.str []), (.int .i64 0), (.int .i64 0), (.str []), .nilslice, (.bool false), (.str []), (.int .i64 0), (.int .u64 0), (.int .u64 0), (.int .i64 0), .nilslice, (.int .i64 0), (.int .i64 0)]), [], none⟩,
    ⟨none, .h (.store 21), [.tmp 8, .tmp 51], none⟩])
  (.seq (.seq (.reg [⟨(some 9), .p .move, [.lit (.int .i64 0)], none⟩])
  (.block 0 (.loop [1, 5, 8, 9] (.seq (.seq (.reg [⟨(some 52), .p .move, [.tmp 9], none⟩,
    ⟨(some 53), .p (.bin .lss), [.tmp 52, .lit (.int .i64 30)], none⟩])
  (.cond (.tmp 53) .skip
  (.exit 0)))
  (.seq (.block 1 (.seq (.seq (.reg [⟨(some 56), .p .move, [.tmp 9], none⟩,
    ⟨(some 57), .p .move, [.tmp 1], none⟩,
    ⟨(some 58), .p .lenSl, [.tmp 57], none⟩,
    ⟨(some 59), .p (.bin .lss), [.tmp 56, .tmp 58], none⟩])
  (.cond (.tmp 59) (.seq (.dreg [⟨[⟨(some 61), .p .move, [.tmp 5], none⟩,
    ⟨(some 62), .p (.fieldAddr 2), [.tmp 8], none⟩,
    ⟨(some 63), .r (.load none), [.tmp 62], none⟩,
    ⟨(some 64), .p (.fieldAddr 3), [.tmp 8], none⟩,
    ⟨(some 65), .r (.load none), [.tmp 64], none⟩,
    ⟨(some 66), .p .move, [.tmp 1], none⟩,
    ⟨(some 67), .p .move, [.tmp 9], none⟩,
    ⟨(some 68), .p (.indexAddr 6), [.tmp 66, .tmp 67], none⟩,
    ⟨(some 69), .r (.load (some 6)), [.tmp 68], none⟩,
    ⟨(some 70), .p (.build [(.int .i64 0), (.int .i64 0), (.int .i64 0), (.int .i64 0), (.int .i64 0), (.str []), (.str []), (.str []), (.int .i64 0), (.int .i64 0), (.str []), .nilslice, (.bool false), (.str []), (.int .i64 0), (.int .u64 0), (.int .u64 0), (.int .i64 0), .nilslice, (.int .i64 0), (.int .i64 0)] [(0, 1), (1, 1), (2, 1), (3, 1), (9, 6)]), [.lit (.int .i64 2), .tmp 63, .lit (.int .i64 100), .tmp 65, .tmp 69], none⟩], [], some ⟨(some 71), .h (.call 13), [.tmp 61, .tmp 70], none⟩⟩,
   ⟨[⟨(some 60), .p .move, [.tmp 71], none⟩,
    ⟨(some 72), .p (.extract 0), [.tmp 60], none⟩,
    ⟨(some 73), .p (.extract 1), [.tmp 60], none⟩,
    ⟨(some 10), .p .move, [.tmp 72], none⟩,
    ⟨(some 11), .p .move, [.tmp 73], none⟩], [], none⟩])
  (.seq (.seq (.reg [⟨(some 74), .p .move, [.tmp 11], none⟩])
  (.cond (.tmp 74) (.exit 0)
  .skip))
  (.seq (.reg [⟨(some 75), .p .move, [.tmp 10], none⟩,
    ⟨(some 76), .p .lenSl, [.tmp 75], none⟩,
    ⟨(some 77), .p (.bin .eql), [.tmp 76, .lit (.int .i64 1)], none⟩])
  (.cond (.tmp 77) (.reg [⟨(some 78), .p .move, [.tmp 10], none⟩,
    ⟨(some 79), .p (.indexAddr 21), [.tmp 78, .lit (.int .i64 0)], none⟩,
    ⟨(some 80), .r (.load (some 21)), [.tmp 79], none⟩,
    ⟨none, .h (.store 21), [.tmp 8, .tmp 80], none⟩])
  .skip))))
  .skip))
  (.seq (.reg [⟨(some 82), .p .move, [.tmp 5], none⟩,
    ⟨(some 83), .h (.call 15), [.tmp 82], none⟩,
    ⟨(some 81), .p .move, [.tmp 83], none⟩,
    ⟨(some 84), .p (.extract 0), [.tmp 81], none⟩,
    ⟨(some 85), .p (.extract 1), [.tmp 81], none⟩,
    ⟨(some 12), .p .move, [.tmp 84], none⟩,
    ⟨(some 13), .p .move, [.tmp 85], none⟩])
  (.seq (.seq (.reg [⟨(some 86), .p .move, [.tmp 13], none⟩])
  (.cond (.tmp 86) (.exit 0)
  .skip))
  (.seq (.reg [⟨(some 87), .p .move, [.tmp 12], none⟩,
    ⟨(some 88), .p .lenSl, [.tmp 87], none⟩,
    ⟨(some 89), .p (.bin .eql), [.tmp 88, .lit (.int .i64 1)], none⟩])
  (.cond (.tmp 89) (.reg [⟨(some 90), .p .move, [.tmp 12], none⟩,
    ⟨(some 91), .p (.indexAddr 21), [.tmp 90, .lit (.int .i64 0)], none⟩,
    ⟨(some 92), .r (.load (some 21)), [.tmp 91], none⟩,
    ⟨none, .h (.store 21), [.tmp 8, .tmp 92], none⟩])
  .skip))))))
  (.reg [⟨(some 54), .p .move, [.tmp 9], none⟩,
    ⟨(some 55), .p (.bin .add), [.tmp 54, .lit (.int .i64 1)], none⟩,
    ⟨(some 9), .p .move, [.tmp 55], none⟩]))))))
  (.seq (.reg [⟨(some 94), .p .move, [.tmp 5], none⟩,
    ⟨(some 95), .h (.call 14), [.tmp 94], none⟩,
    ⟨(some 93), .p .move, [.tmp 95], none⟩,
    ⟨(some 96), .p (.extract 0), [.tmp 93], none⟩,
    ⟨(some 97), .p (.extract 1), [.tmp 93], none⟩,
    ⟨(some 14), .a (.alloc [(.int .i64 0), (.str []), .nilslice, (.bool false), (.str []), (.int .i64 0)]), [], none⟩,
    ⟨none, .h (.store 6), [.tmp 14, .tmp 96], none⟩,
    ⟨(some 15), .p .move, [.tmp 97], none⟩])
  (.seq (.reg [⟨(some 98), .p .move, [.tmp 15], none⟩,
    ⟨(some 99), .p .move, [.tmp 98], none⟩,
    ⟨(some 100), .p .move, [.tmp 5], some (99, true)⟩,
    ⟨(some 101), .h (.call 16), [.tmp 100], some (99, true)⟩,
    ⟨(some 102), .p (.bin .leq), [.tmp 101, .lit (.int .i64 8)], some (99, true)⟩,
    ⟨(some 103), .p .pick, [.tmp 99, .tmp 102, .lit (.bool false)], none⟩,
    ⟨(some 4), .p .move, [.tmp 103], none⟩])
  .ret)))))))))), [.tmp 4]⟩
theorem c6 : cFunc Go.Proofs.Try.prog false 2 Go.Proofs.Try.f6 = some sf6 := by kernel_rfl
def ss6 : List Sh := [(.int .i64), (.sl 80 (.st [(.int .i64), .str, (.sl 32 (.st [.str, .str])), .bool, .str, (.int .i64)]))]
theorem cs6 : shsOf Go.Proofs.Try.prog 12 Go.Proofs.Try.f6.params.toList = some ss6 := by kernel_rfl

/-- rosary/rosarylaw21.GuestTime -/
def sf7 : SFunc := ⟨1, 71, (.seq (.reg [⟨(some 2), .p .move, [.lit (.bool false)], none⟩])
  (.seq (.seq (.reg [⟨(some 12), .p .move, [.tmp 0], none⟩,
    ⟨(some 13), .p (.bin .lss), [.tmp 12, .lit (.int .i64 0)], none⟩,
    ⟨(some 14), .p .move, [.tmp 13], none⟩,
    ⟨(some 15), .p .move, [.tmp 0], some (14, false)⟩,
    ⟨(some 16), .p (.bin .gtr), [.tmp 15, .lit (.int .i64 60)], some (14, false)⟩,
    ⟨(some 17), .p .pick, [.tmp 14, .lit (.bool true), .tmp 16], none⟩,
    ⟨(some 18), .p .move, [.tmp 17], none⟩,
    ⟨(some 19), .h (.call 10), [], some (18, false)⟩,
    ⟨(some 20), .p .not, [.tmp 19], some (18, false)⟩,
    ⟨(some 21), .p .pick, [.tmp 18, .lit (.bool true), .tmp 20], none⟩])
  (.cond (.tmp 21) (.seq (.reg [⟨(some 22), .h (.call 10), [], none⟩,
    ⟨(some 2), .p .move, [.tmp 22], none⟩])
  .ret)
  .skip))
  (.seq (.reg [⟨(some 23), .h (.call 11), [.lit (.int .i64 100), .lit (.int .i64 2)], none⟩,
    ⟨(some 3), .p .move, [.tmp 23], none⟩])
  (.seq (.seq (.reg [⟨(some 24), .p .move, [.tmp 3], none⟩,
    ⟨(some 25), .p (.eq false .ptr), [.tmp 24, .lit .nilptr], none⟩])
  (.cond (.tmp 25) (.seq (.reg [⟨(some 2), .p .move, [.lit (.bool false)], none⟩])
  .ret)
  .skip))
  (.seq (.seq (.reg [⟨(some 27), .p .move, [.tmp 3], none⟩,
    ⟨(some 28), .p (.build [(.int .i64 0), (.str []), (.str []), (.str []), (.int .i64 0)] [(0, 1), (1, 1)]), [.lit (.int .i64 1), .lit (.str [107])], none⟩,
    ⟨(some 29), .h (.call 12), [.tmp 27, .tmp 28, .lit (.int .i64 0)], none⟩,
    ⟨(some 26), .p .move, [.tmp 29], none⟩,
    ⟨(some 30), .p (.extract 0), [.tmp 26], none⟩,
    ⟨(some 31), .p (.extract 1), [.tmp 26], none⟩,
    ⟨(some 4), .p .move, [.tmp 30], none⟩,
    ⟨(some 5), .p .move, [.tmp 31], none⟩])
  (.seq (.reg [⟨(some 32), .p .move, [.tmp 5], none⟩,
    ⟨(some 33), .p .not, [.tmp 32], none⟩])
  (.cond (.tmp 33) (.seq (.reg [⟨(some 2), .p .move, [.lit (.bool false)], none⟩])
  .ret)
  .skip)))
  (.seq (.reg [⟨(some 6), .p .move, [.lit (.int .i64 0)], none⟩])
  (.seq (.seq (.reg [⟨(some 7), .p .move, [.lit (.int .i64 1)], none⟩])
  (.block 0 (.loop [0, 3, 6, 7] (.seq (.seq (.reg [⟨(some 34), .p .move, [.tmp 7], none⟩,
    ⟨(some 35), .p .move, [.tmp 0], none⟩,
    ⟨(some 36), .p (.bin .leq), [.tmp 34, .tmp 35], none⟩])
  (.cond (.tmp 36) .skip
  (.exit 0)))
  (.seq (.block 1 (.seq (.reg [⟨(some 40), .p .move, [.tmp 3], none⟩,
    ⟨(some 41), .h (.call 15), [.tmp 40], none⟩,
    ⟨(some 39), .p .move, [.tmp 41], none⟩,
    ⟨(some 42), .p (.extract 0), [.tmp 39], none⟩,
    ⟨(some 43), .p (.extract 1), [.tmp 39], none⟩,
    ⟨(some 8), .p .move, [.tmp 42], none⟩,
    ⟨(some 9), .p .move, [.tmp 43], none⟩])
  (.seq (.reg [⟨(some 44), .p .move, [.tmp 9], none⟩])
  (.cond (.tmp 44) (.seq (.seq (.reg [⟨(some 45), .p .move, [.tmp 6], none⟩,
    ⟨(some 46), .p (.bin .gtr), [.tmp 45, .lit (.int .i64 0)], none⟩])
  (.cond (.tmp 46) (.seq (.reg [⟨(some 2), .p .move, [.lit (.bool false)], none⟩])
  .ret)
  .skip))
  (.reg [⟨(some 47), .p .move, [.tmp 7], none⟩,
    ⟨(some 6), .p .move, [.tmp 47], none⟩]))
  .skip))))
  (.reg [⟨(some 37), .p .move, [.tmp 7], none⟩,
    ⟨(some 38), .p (.bin .add), [.tmp 37, .lit (.int .i64 1)], none⟩,
    ⟨(some 7), .p .move, [.tmp 38], none⟩]))))))
  (.seq (.reg [⟨(some 49), .p .move, [.tmp 3], none⟩,
    ⟨(some 50), .h (.call 14), [.tmp 49], none⟩,
    ⟨(some 48), .p .move, [.tmp 50], none⟩,
    ⟨(some 51), .p (.extract 0), [.tmp 48], none⟩,
    ⟨(some 52), .p (.extract 1), [.tmp 48], none⟩,
    ⟨(some 10), .a (.alloc [(.int .i64 0), (.str []), .nilslice, (.bool false), (.str []), (.int .i64 0)]), [], none⟩,
    ⟨none, .h (.store 6), [.tmp 10, .tmp 51], none⟩,
    ⟨(some 11), .p .move, [.tmp 52], none⟩])
  (.seq (.seq (.reg [⟨(some 53), .p .move, [.tmp 0], none⟩,
    ⟨(some 54), .p (.bin .lss), [.tmp 53, .lit (.int .i64 30)], none⟩])
  (.cond (.tmp 54) (.seq (.reg [⟨(some 55), .p .move, [.tmp 6], none⟩,
    ⟨(some 56), .p (.bin .eql), [.tmp 55, .lit (.int .i64 0)], none⟩,
    ⟨(some 57), .p .move, [.tmp 56], none⟩,
    ⟨(some 58), .p .move, [.tmp 11], some (57, true)⟩,
    ⟨(some 59), .p .not, [.tmp 58], some (57, true)⟩,
    ⟨(some 60), .p .pick, [.tmp 57, .tmp 59, .lit (.bool false)], none⟩,
    ⟨(some 2), .p .move, [.tmp 60], none⟩])
  .ret)
  .skip))
  (.seq (.reg [⟨(some 61), .p .move, [.tmp 6], none⟩,
    ⟨(some 62), .p (.bin .eql), [.tmp 61, .lit (.int .i64 30)], none⟩,
    ⟨(some 63), .p .move, [.tmp 62], none⟩,
    ⟨(some 64), .p .move, [.tmp 11], some (63, true)⟩,
    ⟨(some 65), .p .pick, [.tmp 63, .tmp 64, .lit (.bool false)], none⟩,
    ⟨(some 66), .p .move, [.tmp 65], none⟩,
    ⟨(some 67), .p (.fieldAddr 0), [.tmp 10], some (66, true)⟩,
    ⟨(some 68), .r (.load none), [.tmp 67], some (66, true)⟩,
    ⟨(some 69), .p (.bin .eql), [.tmp 68, .lit (.int .i64 9)], some (66, true)⟩,
    ⟨(some 70), .p .pick, [.tmp 66, .tmp 69, .lit (.bool false)], none⟩,
    ⟨(some 2), .p .move, [.tmp 70], none⟩])
  .ret)))))))))), [.tmp 2]⟩
theorem c7 : cFunc Go.Proofs.Try.prog false 1 Go.Proofs.Try.f7 = some sf7 := by kernel_rfl
def ss7 : List Sh := [(.int .i64)]
theorem cs7 : shsOf Go.Proofs.Try.prog 12 Go.Proofs.Try.f7.params.toList = some ss7 := by kernel_rfl

/-- rosary/rosarylaw21.GuestPlays -/
def sf8 : SFunc := ⟨3, 331, (.seq (.reg [⟨(some 6), .p .move, [.lit (.bool false)], none⟩])
  (.seq (.seq (.reg [⟨(some 37), .p .move, [.tmp 2], none⟩,
    ⟨(some 38), .p .lenSl, [.tmp 37], none⟩,
    ⟨(some 39), .p (.bin .gtr), [.tmp 38, .lit (.int .i64 80)], none⟩,
    ⟨(some 40), .p .move, [.tmp 39], none⟩,
    ⟨(some 41), .h (.call 10), [], some (40, false)⟩,
    ⟨(some 42), .p .not, [.tmp 41], some (40, false)⟩,
    ⟨(some 43), .p .pick, [.tmp 40, .lit (.bool true), .tmp 42], none⟩])
  (.cond (.tmp 43) (.seq (.reg [⟨(some 44), .h (.call 10), [], none⟩,
    ⟨(some 6), .p .move, [.tmp 44], none⟩])
  .ret)
  .skip))
  (.seq (.reg [⟨(some 45), .p .move, [.tmp 0], none⟩,
    ⟨(some 46), .p .move, [.tmp 1], none⟩,
    ⟨(some 47), .h (.call 11), [.tmp 45, .tmp 46], none⟩,
    ⟨(some 7), .p .move, [.tmp 47], none⟩])
  (.seq (.seq (.reg [⟨(some 48), .p .move, [.tmp 1], none⟩,
    ⟨(some 49), .p (.bin .lss), [.tmp 48, .lit (.int .i64 1)], none⟩,
    ⟨(some 50), .p .move, [.tmp 49], none⟩,
    ⟨(some 51), .p .move, [.tmp 1], some (50, false)⟩,
    ⟨(some 52), .p (.bin .gtr), [.tmp 51, .lit (.int .i64 16)], some (50, false)⟩,
    ⟨(some 53), .p .pick, [.tmp 50, .lit (.bool true), .tmp 52], none⟩])
  (.cond (.tmp 53) (.seq (.reg [⟨(some 54), .p .move, [.tmp 7], none⟩,
    ⟨(some 55), .p (.eq false .ptr), [.tmp 54, .lit .nilptr], none⟩,
    ⟨(some 6), .p .move, [.tmp 55], none⟩])
  .ret)
  .skip))
  (.seq (.seq (.reg [⟨(some 56), .p .move, [.tmp 7], none⟩,
    ⟨(some 57), .p (.eq false .ptr), [.tmp 56, .lit .nilptr], none⟩])
  (.cond (.tmp 57) (.seq (.reg [⟨(some 6), .p .move, [.lit (.bool false)], none⟩])
  .ret)
  .skip))
  (.seq (.reg [⟨(some 58), .p .move, [.tmp 0], none⟩,
    ⟨(some 59), .p .move, [.tmp 1], none⟩,
    ⟨(some 60), .p (.build [(.int .i64 0), (.int .i64 0), (.int .i64 0), (.int .i64 0), (.bool false), (.bool false), (.int .i64 0), (.int .i64 0), (.int .i64 0), (.int .i64 0), (.str []), (.str []), (.str []), (.int .i64 0), (.int .i64 0), (.str []), .nilslice, (.bool false), (.str []), (.int .i64 0)] [(0, 1), (1, 1)]), [.tmp 58, .tmp 59], none⟩,
    ⟨(some 61), .a .box, [.tmp 60], none⟩,
    ⟨(some 8), .p .move, [.tmp 61], none⟩])
  (.seq (.reg [⟨(some 62), .p (.build [.nilslice, .nilslice, .nilslice, .nilslice, .nilslice, .nilslice, .nilslice, .nilslice, .nilslice, .nilslice, .nilslice, .nilslice, .nilslice, .nilslice] []), [], none⟩,
    ⟨(some 63), .a .box, [.tmp 62], none⟩,
    ⟨(some 9), .p .move, [.tmp 63], none⟩])
  (.seq (.seq (.reg [⟨(some 10), .p .move, [.lit (.int .i64 0)], none⟩])
  (.block 0 (.loop [0, 1, 2, 7, 8, 9, 10] (.seq (.seq (.reg [⟨(some 64), .p .move, [.tmp 10], none⟩,
    ⟨(some 65), .p .move, [.tmp 2], none⟩,
    ⟨(some 66), .p .lenSl, [.tmp 65], none⟩,
    ⟨(some 67), .p (.bin .lss), [.tmp 64, .tmp 66], none⟩])
  (.cond (.tmp 67) .skip
  (.exit 0)))
  (.seq (.block 1 (.seq (.reg [⟨(some 70), .p .move, [.tmp 2], none⟩,
    ⟨(some 71), .p .move, [.tmp 10], none⟩,
    ⟨(some 72), .p (.indexAddr 35), [.tmp 70, .tmp 71], none⟩,
    ⟨(some 73), .r (.load (some 35)), [.tmp 72], none⟩,
    ⟨(some 11), .a (.alloc [(.int .i64 0), (.int .i64 0), (.int .i64 0), (.int .i64 0), (.str []), (.str []), (.str []), (.int .i64 0), (.int .i64 0), (.str []), .nilslice, (.bool false), (.str []), (.int .i64 0), (.int .i64 0), (.int .i64 0), (.int .i64 0), (.int .i64 0), (.int .i64 0), (.str []), (.str []), (.str []), (.int .i64 0), (.int .i64 0), (.str []), .nilslice, (.bool false), (.str []), (.int .i64 0), (.int .u64 0), (.int .u64 0), (.int .i64 0), .nilslice, (.int .i64 0), (.int .i64 0)]), [], none⟩,
    ⟨none, .h (.store 35), [.tmp 11, .tmp 73], none⟩])
  (.seq (.seq (.reg [⟨(some 74), .p (.fieldAddr 8), [.tmp 11], none⟩,
    ⟨(some 75), .p (.fieldAddr 2), [.tmp 74], none⟩,
    ⟨(some 76), .r (.load none), [.tmp 75], none⟩,
    ⟨(some 77), .p .lenSl, [.tmp 76], none⟩,
    ⟨(some 78), .p (.bin .gtr), [.tmp 77, .lit (.int .i64 40)], none⟩,
    ⟨(some 79), .p .move, [.tmp 78], none⟩,
    ⟨(some 80), .p (.fieldAddr 14), [.tmp 11], some (79, false)⟩,
    ⟨(some 81), .p (.fieldAddr 9), [.tmp 80], some (79, false)⟩,
    ⟨(some 82), .p (.fieldAddr 2), [.tmp 81], some (79, false)⟩,
    ⟨(some 83), .r (.load none), [.tmp 82], some (79, false)⟩,
    ⟨(some 84), .p .lenSl, [.tmp 83], some (79, false)⟩,
    ⟨(some 85), .p (.bin .gtr), [.tmp 84, .lit (.int .i64 40)], some (79, false)⟩,
    ⟨(some 86), .p .pick, [.tmp 79, .lit (.bool true), .tmp 85], none⟩,
    ⟨(some 87), .p .move, [.tmp 86], none⟩,
    ⟨(some 88), .p (.fieldAddr 0), [.tmp 11], some (87, false)⟩,
    ⟨(some 89), .r (.load none), [.tmp 88], some (87, false)⟩,
    ⟨(some 90), .p (.bin .eql), [.tmp 89, .lit (.int .i64 4)], some (87, false)⟩,
    ⟨(some 91), .p .move, [.tmp 90], some (87, false)⟩,
    ⟨(some 92), .p (.fieldAddr 2), [.tmp 11], some (91, true)⟩,
    ⟨(some 93), .r (.load none), [.tmp 92], some (91, true)⟩,
    ⟨(some 94), .p (.bin .gtr), [.tmp 93, .lit (.int .i64 60)], some (91, true)⟩,
    ⟨(some 95), .p .pick, [.tmp 91, .tmp 94, .lit (.bool false)], some (87, false)⟩,
    ⟨(some 96), .p .pick, [.tmp 87, .lit (.bool true), .tmp 95], none⟩])
  (.cond (.tmp 96) (.seq (.reg [⟨(some 6), .p .move, [.lit (.bool true)], none⟩])
  .ret)
  .skip))
  (.seq (.seq (.reg [⟨(some 97), .p (.fieldAddr 0), [.tmp 11], none⟩,
    ⟨(some 98), .r (.load none), [.tmp 97], none⟩])
  (.block 2 (.seq (.reg [⟨(some 141), .p (.bin .eql), [.tmp 98, .lit (.int .i64 1)], none⟩,
    ⟨(some 140), .p .move, [.tmp 141], none⟩])
  (.cond (.tmp 140) (.seq (.reg [⟨(some 143), .p .move, [.tmp 7], none⟩,
    ⟨(some 144), .p (.fieldAddr 3), [.tmp 11], none⟩,
    ⟨(some 145), .r (.load (some 5)), [.tmp 144], none⟩,
    ⟨(some 146), .p (.fieldAddr 1), [.tmp 11], none⟩,
    ⟨(some 147), .r (.load none), [.tmp 146], none⟩,
    ⟨(some 148), .h (.call 12), [.tmp 143, .tmp 145, .tmp 147], none⟩,
    ⟨(some 142), .p .move, [.tmp 148], none⟩,
    ⟨(some 149), .p (.extract 0), [.tmp 142], none⟩,
    ⟨(some 150), .p (.extract 1), [.tmp 142], none⟩,
    ⟨(some 12), .p .move, [.tmp 149], none⟩,
    ⟨(some 13), .p .move, [.tmp 150], none⟩])
  (.seq (.reg [⟨(some 151), .p .move, [.tmp 8], none⟩,
    ⟨(some 152), .p .nilCheck, [.tmp 151], none⟩,
    ⟨(some 153), .p (.fieldAddr 4), [.tmp 152], none⟩,
    ⟨(some 154), .r (.load none), [.tmp 153], none⟩,
    ⟨(some 155), .p .not, [.tmp 154], none⟩,
    ⟨(some 156), .p .move, [.tmp 155], none⟩,
    ⟨(some 157), .p (.fieldAddr 3), [.tmp 11], some (156, true)⟩,
    ⟨(some 158), .p (.fieldAddr 0), [.tmp 157], some (156, true)⟩,
    ⟨(some 159), .r (.load none), [.tmp 158], some (156, true)⟩,
    ⟨(some 160), .p (.bin .geq), [.tmp 159, .lit (.int .i64 1)], some (156, true)⟩,
    ⟨(some 161), .p .pick, [.tmp 156, .tmp 160, .lit (.bool false)], none⟩,
    ⟨(some 162), .p .move, [.tmp 161], none⟩,
    ⟨(some 163), .p (.fieldAddr 3), [.tmp 11], some (162, true)⟩,
    ⟨(some 164), .p (.fieldAddr 0), [.tmp 163], some (162, true)⟩,
    ⟨(some 165), .r (.load none), [.tmp 164], some (162, true)⟩,
    ⟨(some 166), .p (.bin .leq), [.tmp 165, .lit (.int .i64 3)], some (162, true)⟩,
    ⟨(some 167), .p .pick, [.tmp 162, .tmp 166, .lit (.bool false)], none⟩,
    ⟨(some 168), .p .move, [.tmp 167], none⟩,
    ⟨(some 169), .p (.fieldAddr 1), [.tmp 11], some (168, true)⟩,
    ⟨(some 170), .r (.load none), [.tmp 169], some (168, true)⟩,
    ⟨(some 171), .p (.bin .geq), [.tmp 170, .lit (.int .i64 0)], some (168, true)⟩,
    ⟨(some 172), .p .pick, [.tmp 168, .tmp 171, .lit (.bool false)], none⟩,
    ⟨(some 173), .p .move, [.tmp 172], none⟩,
    ⟨(some 174), .p (.fieldAddr 1), [.tmp 11], some (173, true)⟩,
    ⟨(some 175), .r (.load none), [.tmp 174], some (173, true)⟩,
    ⟨(some 176), .p .move, [.tmp 1], some (173, true)⟩,
    ⟨(some 177), .p (.bin .lss), [.tmp 175, .tmp 176], some (173, true)⟩,
    ⟨(some 178), .p .pick, [.tmp 173, .tmp 177, .lit (.bool false)], none⟩,
    ⟨(some 14), .p .move, [.tmp 178], none⟩])
  (.seq (.reg [⟨(some 15), .p .move, [.lit .nilslice], none⟩])
  (.seq (.seq (.reg [⟨(some 179), .p .move, [.tmp 14], none⟩])
  (.cond (.tmp 179) (.reg [⟨(some 180), .p .move, [.tmp 8], none⟩,
    ⟨(some 181), .p (.fieldAddr 3), [.tmp 11], none⟩,
    ⟨(some 182), .r (.load (some 5)), [.tmp 181], none⟩,
    ⟨(some 183), .p (.fieldAddr 1), [.tmp 11], none⟩,
    ⟨(some 184), .r (.load none), [.tmp 183], none⟩,
    ⟨(some 185), .h (.call 17), [.tmp 180, .tmp 182, .tmp 184], none⟩,
    ⟨(some 15), .p .move, [.tmp 185], none⟩])
  .skip))
  (.seq (.reg [⟨(some 186), .p .move, [.tmp 9], none⟩,
    ⟨(some 187), .p .move, [.tmp 12], none⟩,
    ⟨(some 188), .h (.call 18), [.tmp 186, .tmp 187], none⟩])
  (.seq (.reg [⟨(some 189), .p .move, [.tmp 13], none⟩,
    ⟨(some 190), .p .move, [.tmp 14], none⟩,
    ⟨(some 191), .p (.eq true .bool), [.tmp 189, .tmp 190], none⟩,
    ⟨(some 192), .p .move, [.tmp 191], none⟩,
    ⟨(some 193), .p .move, [.tmp 12], some (192, false)⟩,
    ⟨(some 194), .p .move, [.tmp 15], some (192, false)⟩,
    ⟨(some 195), .h (.call 19), [.tmp 193, .tmp 194], some (192, false)⟩,
    ⟨(some 196), .p .not, [.tmp 195], some (192, false)⟩,
    ⟨(some 197), .p .pick, [.tmp 192, .lit (.bool true), .tmp 196], none⟩])
  (.cond (.tmp 197) (.seq (.reg [⟨(some 6), .p .move, [.lit (.bool false)], none⟩])
  .ret)
  .skip)))))))
  (.seq (.reg [⟨(some 199), .p (.bin .eql), [.tmp 98, .lit (.int .i64 4)], none⟩,
    ⟨(some 198), .p .move, [.tmp 199], none⟩])
  (.cond (.tmp 198) (.seq (.reg [⟨(some 16), .p .move, [.lit (.int .i64 0)], none⟩])
  (.block 3 (.loop [0, 1, 2, 7, 8, 9, 10, 11, 16] (.seq (.seq (.reg [⟨(some 200), .p .move, [.tmp 16], none⟩,
    ⟨(some 201), .p (.fieldAddr 2), [.tmp 11], none⟩,
    ⟨(some 202), .r (.load none), [.tmp 201], none⟩,
    ⟨(some 203), .p (.bin .lss), [.tmp 200, .tmp 202], none⟩])
  (.cond (.tmp 203) .skip
  (.exit 3)))
  (.seq (.block 4 (.seq (.reg [⟨(some 207), .p .move, [.tmp 7], none⟩,
    ⟨(some 208), .h (.call 15), [.tmp 207], none⟩,
    ⟨(some 206), .p .move, [.tmp 208], none⟩,
    ⟨(some 209), .p (.extract 0), [.tmp 206], none⟩,
    ⟨(some 210), .p (.extract 1), [.tmp 206], none⟩,
    ⟨(some 17), .p .move, [.tmp 209], none⟩,
    ⟨(some 18), .p .move, [.tmp 210], none⟩])
  (.seq (.reg [⟨(some 212), .p .move, [.tmp 8], none⟩,
    ⟨(some 213), .h (.call 20), [.tmp 212], none⟩,
    ⟨(some 211), .p .move, [.tmp 213], none⟩,
    ⟨(some 214), .p (.extract 0), [.tmp 211], none⟩,
    ⟨(some 215), .p (.extract 1), [.tmp 211], none⟩,
    ⟨(some 19), .p .move, [.tmp 214], none⟩,
    ⟨(some 20), .p .move, [.tmp 215], none⟩])
  (.seq (.reg [⟨(some 216), .p .move, [.tmp 9], none⟩,
    ⟨(some 217), .p .move, [.tmp 17], none⟩,
    ⟨(some 218), .h (.call 18), [.tmp 216, .tmp 217], none⟩])
  (.seq (.reg [⟨(some 219), .p .move, [.tmp 18], none⟩,
    ⟨(some 220), .p .move, [.tmp 20], none⟩,
    ⟨(some 221), .p (.eq true .bool), [.tmp 219, .tmp 220], none⟩,
    ⟨(some 222), .p .move, [.tmp 221], none⟩,
    ⟨(some 223), .p .move, [.tmp 17], some (222, false)⟩,
    ⟨(some 224), .p .move, [.tmp 19], some (222, false)⟩,
    ⟨(some 225), .h (.call 19), [.tmp 223, .tmp 224], some (222, false)⟩,
    ⟨(some 226), .p .not, [.tmp 225], some (222, false)⟩,
    ⟨(some 227), .p .pick, [.tmp 222, .lit (.bool true), .tmp 226], none⟩])
  (.cond (.tmp 227) (.seq (.reg [⟨(some 6), .p .move, [.lit (.bool false)], none⟩])
  .ret)
  .skip))))))
  (.reg [⟨(some 204), .p .move, [.tmp 16], none⟩,
    ⟨(some 205), .p (.bin .add), [.tmp 204, .lit (.int .i64 1)], none⟩,
    ⟨(some 16), .p .move, [.tmp 205], none⟩]))))))
  (.seq (.reg [⟨(some 99), .p (.fieldAddr 14), [.tmp 11], none⟩,
    ⟨(some 100), .r (.load (some 21)), [.tmp 99], none⟩,
    ⟨(some 21), .a (.alloc [(.int .i64 0), (.int .i64 0), (.int .i64 0), (.int .i64 0), (.int .i64 0), (.str []), (.str []), (.str []), (.int .i64 0), (.int .i64 0), (.str []), .nilslice, (.bool false), (.str []), (.int .i64 0), (.int .u64 0), (.int .u64 0), (.int .i64 0), .nilslice, (.int .i64 0), (.int .i64 0)]), [], none⟩,
    ⟨none, .h (.store 21), [.tmp 21, .tmp 100], none⟩])
  (.seq (.seq (.reg [⟨(some 101), .p (.fieldAddr 0), [.tmp 11], none⟩,
    ⟨(some 102), .r (.load none), [.tmp 101], none⟩,
    ⟨(some 103), .p (.bin .eql), [.tmp 102, .lit (.int .i64 2)], none⟩])
  (.cond (.tmp 103) (.dreg [⟨[⟨(some 104), .p .move, [.tmp 8], none⟩,
    ⟨(some 105), .p .nilCheck, [.tmp 104], none⟩,
    ⟨(some 106), .p (.fieldAddr 6), [.tmp 105], none⟩,
    ⟨(some 107), .r (.load none), [.tmp 106], none⟩,
    ⟨(some 108), .p .move, [.tmp 0], none⟩,
    ⟨(some 109), .p .move, [.tmp 8], none⟩,
    ⟨(some 110), .p .nilCheck, [.tmp 109], none⟩,
    ⟨(some 111), .p (.fieldAddr 2), [.tmp 110], none⟩,
    ⟨(some 112), .r (.load none), [.tmp 111], none⟩,
    ⟨(some 113), .p (.fieldAddr 8), [.tmp 11], none⟩,
    ⟨(some 114), .r (.load (some 6)), [.tmp 113], none⟩,
    ⟨(some 115), .p (.build [(.int .i64 0), (.int .i64 0), (.int .i64 0), (.int .i64 0), (.int .i64 0), (.str []), (.str []), (.str []), (.int .i64 0), (.int .i64 0), (.str []), .nilslice, (.bool false), (.str []), (.int .i64 0), (.int .u64 0), (.int .u64 0), (.int .i64 0), .nilslice, (.int .i64 0), (.int .i64 0)] [(0, 1), (1, 1), (2, 1), (3, 1), (9, 6)]), [.lit (.int .i64 2), .tmp 107, .tmp 108, .tmp 112, .tmp 114], none⟩], [], some ⟨none, .h (.store 21), [.tmp 21, .tmp 115], none⟩⟩,
   ⟨[], [], none⟩])
  .skip))
  (.seq (.reg [⟨(some 117), .p .move, [.tmp 7], none⟩,
    ⟨(some 118), .r (.load (some 21)), [.tmp 21], none⟩,
    ⟨(some 119), .h (.call 13), [.tmp 117, .tmp 118], none⟩,
    ⟨(some 116), .p .move, [.tmp 119], none⟩,
    ⟨(some 120), .p (.extract 0), [.tmp 116], none⟩,
    ⟨(some 121), .p (.extract 1), [.tmp 116], none⟩,
    ⟨(some 22), .p .move, [.tmp 120], none⟩,
    ⟨(some 23), .p .move, [.tmp 121], none⟩])
  (.seq (.reg [⟨(some 123), .p .move, [.tmp 8], none⟩,
    ⟨(some 124), .r (.load (some 21)), [.tmp 21], none⟩,
    ⟨(some 125), .h (.call 21), [.tmp 123, .tmp 124], none⟩,
    ⟨(some 122), .p .move, [.tmp 125], none⟩,
    ⟨(some 126), .p (.extract 0), [.tmp 122], none⟩,
    ⟨(some 127), .p (.extract 1), [.tmp 122], none⟩,
    ⟨(some 24), .p .move, [.tmp 126], none⟩,
    ⟨(some 25), .p .move, [.tmp 127], none⟩])
  (.seq (.reg [⟨(some 128), .p .move, [.tmp 9], none⟩,
    ⟨(some 129), .p .move, [.tmp 22], none⟩,
    ⟨(some 130), .h (.call 18), [.tmp 128, .tmp 129], none⟩])
  (.seq (.reg [⟨(some 131), .p .move, [.tmp 23], none⟩,
    ⟨(some 132), .p .move, [.tmp 25], none⟩,
    ⟨(some 133), .p (.eq true .bool), [.tmp 131, .tmp 132], none⟩,
    ⟨(some 134), .p .move, [.tmp 133], none⟩,
    ⟨(some 135), .p .move, [.tmp 22], some (134, false)⟩,
    ⟨(some 136), .p .move, [.tmp 24], some (134, false)⟩,
    ⟨(some 137), .h (.call 19), [.tmp 135, .tmp 136], some (134, false)⟩,
    ⟨(some 138), .p .not, [.tmp 137], some (134, false)⟩,
    ⟨(some 139), .p .pick, [.tmp 134, .lit (.bool true), .tmp 138], none⟩])
  (.cond (.tmp 139) (.seq (.reg [⟨(some 6), .p .move, [.lit (.bool false)], none⟩])
  .ret)
  .skip)))))))))))))
  (.seq (.reg [⟨(some 229), .p .move, [.tmp 7], none⟩,
    ⟨(some 230), .h (.call 14), [.tmp 229], none⟩,
    ⟨(some 228), .p .move, [.tmp 230], none⟩,
    ⟨(some 231), .p (.extract 0), [.tmp 228], none⟩,
    ⟨(some 232), .p (.extract 1), [.tmp 228], none⟩,
    ⟨(some 26), .a (.alloc [(.int .i64 0), (.str []), .nilslice, (.bool false), (.str []), (.int .i64 0)]), [], none⟩,
    ⟨none, .h (.store 6), [.tmp 26, .tmp 231], none⟩,
    ⟨(some 27), .p .move, [.tmp 232], none⟩])
  (.seq (.reg [⟨(some 233), .p .move, [.tmp 9], none⟩,
    ⟨(some 234), .p (.fieldAddr 2), [.tmp 26], none⟩,
    ⟨(some 235), .r (.load none), [.tmp 234], none⟩,
    ⟨(some 236), .h (.call 22), [.tmp 233, .tmp 235], none⟩])
  (.seq (.dreg [⟨[⟨(some 237), .p .move, [.tmp 27], none⟩,
    ⟨(some 238), .p .move, [.tmp 8], none⟩,
    ⟨(some 239), .p .nilCheck, [.tmp 238], none⟩,
    ⟨(some 240), .p (.fieldAddr 5), [.tmp 239], none⟩,
    ⟨(some 241), .r (.load none), [.tmp 240], none⟩,
    ⟨(some 242), .p (.eq true .bool), [.tmp 237, .tmp 241], none⟩,
    ⟨(some 243), .p .move, [.tmp 242], none⟩,
    ⟨(some 244), .p .move, [.tmp 27], some (243, false)⟩,
    ⟨(some 245), .p .move, [.tmp 244], some (243, false)⟩,
    ⟨(some 246), .r (.load (some 6)), [.tmp 26], some (245, true)⟩,
    ⟨(some 247), .p .move, [.tmp 8], some (245, true)⟩,
    ⟨(some 248), .p .nilCheck, [.tmp 247], some (245, true)⟩,
    ⟨(some 249), .p (.fieldAddr 14), [.tmp 248], some (245, true)⟩,
    ⟨(some 250), .r (.load (some 6)), [.tmp 249], some (245, true)⟩], [], some ⟨(some 251), .h (.call 23), [.tmp 246, .tmp 250], some (245, true)⟩⟩,
   ⟨[⟨(some 252), .p .not, [.tmp 251], some (245, true)⟩,
    ⟨(some 253), .p .pick, [.tmp 245, .tmp 252, .lit (.bool false)], some (243, false)⟩,
    ⟨(some 254), .p .pick, [.tmp 243, .lit (.bool true), .tmp 253], none⟩,
    ⟨(some 255), .p .move, [.tmp 254], none⟩,
    ⟨(some 256), .p .move, [.tmp 27], some (255, false)⟩,
    ⟨(some 257), .p .not, [.tmp 256], some (255, false)⟩,
    ⟨(some 258), .p .move, [.tmp 257], some (255, false)⟩,
    ⟨(some 259), .r (.load (some 6)), [.tmp 26], some (258, true)⟩,
    ⟨(some 260), .p (.build [(.int .i64 0), (.str []), .nilslice, (.bool false), (.str []), (.int .i64 0)] []), [], some (258, true)⟩], [], some ⟨(some 261), .h (.call 23), [.tmp 259, .tmp 260], some (258, true)⟩⟩,
   ⟨[⟨(some 262), .p .not, [.tmp 261], some (258, true)⟩,
    ⟨(some 263), .p .pick, [.tmp 258, .tmp 262, .lit (.bool false)], some (255, false)⟩,
    ⟨(some 264), .p .pick, [.tmp 255, .lit (.bool true), .tmp 263], none⟩,
    ⟨(some 265), .p .move, [.tmp 264], none⟩,
    ⟨(some 266), .p .move, [.tmp 7], some (265, false)⟩,
    ⟨(some 268), .p .move, [.tmp 8], some (265, false)⟩,
    ⟨(some 269), .p .nilCheck, [.tmp 268], some (265, false)⟩,
    ⟨(some 270), .p (.fieldAddr 2), [.tmp 269], some (265, false)⟩,
    ⟨(some 271), .r (.load none), [.tmp 270], some (265, false)⟩], [], some ⟨(some 267), .h (.call 24), [.tmp 266], some (265, false)⟩⟩,
   ⟨[⟨(some 272), .p (.bin .neq), [.tmp 267, .tmp 271], some (265, false)⟩,
    ⟨(some 273), .p .pick, [.tmp 265, .lit (.bool true), .tmp 272], none⟩,
    ⟨(some 274), .p .move, [.tmp 273], none⟩,
    ⟨(some 275), .p .move, [.tmp 7], some (274, false)⟩,
    ⟨(some 277), .p .move, [.tmp 8], some (274, false)⟩,
    ⟨(some 278), .p .nilCheck, [.tmp 277], some (274, false)⟩,
    ⟨(some 279), .p (.fieldAddr 3), [.tmp 278], some (274, false)⟩,
    ⟨(some 280), .r (.load none), [.tmp 279], some (274, false)⟩], [⟨(some 271), .r (.load none), [.tmp 270], some (265, false)⟩], some ⟨(some 276), .h (.call 16), [.tmp 275], some (274, false)⟩⟩,
   ⟨[⟨(some 281), .p (.bin .neq), [.tmp 276, .tmp 280], some (274, false)⟩,
    ⟨(some 282), .p .pick, [.tmp 274, .lit (.bool true), .tmp 281], none⟩], [⟨(some 280), .r (.load none), [.tmp 279], some (274, false)⟩], none⟩])
  (.cond (.tmp 282) (.seq (.reg [⟨(some 6), .p .move, [.lit (.bool false)], none⟩])
  .ret)
  .skip))))))))
  (.reg [⟨(some 68), .p .move, [.tmp 10], none⟩,
    ⟨(some 69), .p (.bin .add), [.tmp 68, .lit (.int .i64 1)], none⟩,
    ⟨(some 10), .p .move, [.tmp 69], none⟩]))))))
  (.seq (.reg [⟨(some 28), .p .move, [.lit .nilptr], none⟩])
  (.seq (.reg [⟨(some 284), .p .move, [.tmp 28], none⟩,
    ⟨(some 285), .p (.build [(.int .i64 0), (.str []), (.str []), (.str []), (.int .i64 0)] [(0, 1), (1, 1)]), [.lit (.int .i64 1), .lit (.str [97])], none⟩,
    ⟨(some 286), .h (.call 12), [.tmp 284, .tmp 285, .lit (.int .i64 0)], none⟩,
    ⟨(some 283), .p .move, [.tmp 286], none⟩,
    ⟨(some 287), .p (.extract 0), [.tmp 283], none⟩,
    ⟨(some 288), .p (.extract 1), [.tmp 283], none⟩,
    ⟨(some 29), .p .move, [.tmp 287], none⟩,
    ⟨(some 30), .p .move, [.tmp 288], none⟩])
  (.seq (.reg [⟨(some 290), .p .move, [.tmp 28], none⟩,
    ⟨(some 291), .p (.build [(.int .i64 0), (.int .i64 0), (.int .i64 0), (.int .i64 0), (.int .i64 0), (.str []), (.str []), (.str []), (.int .i64 0), (.int .i64 0), (.str []), .nilslice, (.bool false), (.str []), (.int .i64 0), (.int .u64 0), (.int .u64 0), (.int .i64 0), .nilslice, (.int .i64 0), (.int .i64 0)] []), [], none⟩,
    ⟨(some 292), .h (.call 13), [.tmp 290, .tmp 291], none⟩,
    ⟨(some 289), .p .move, [.tmp 292], none⟩,
    ⟨(some 293), .p (.extract 0), [.tmp 289], none⟩,
    ⟨(some 294), .p (.extract 1), [.tmp 289], none⟩,
    ⟨(some 31), .p .move, [.tmp 293], none⟩,
    ⟨(some 32), .p .move, [.tmp 294], none⟩])
  (.seq (.reg [⟨(some 296), .p .move, [.tmp 28], none⟩,
    ⟨(some 297), .h (.call 15), [.tmp 296], none⟩,
    ⟨(some 295), .p .move, [.tmp 297], none⟩,
    ⟨(some 298), .p (.extract 0), [.tmp 295], none⟩,
    ⟨(some 299), .p (.extract 1), [.tmp 295], none⟩,
    ⟨(some 33), .p .move, [.tmp 298], none⟩,
    ⟨(some 34), .p .move, [.tmp 299], none⟩])
  (.seq (.reg [⟨(some 301), .p .move, [.tmp 28], none⟩,
    ⟨(some 302), .h (.call 14), [.tmp 301], none⟩,
    ⟨(some 300), .p .move, [.tmp 302], none⟩,
    ⟨(some 303), .p (.extract 0), [.tmp 300], none⟩,
    ⟨(some 304), .p (.extract 1), [.tmp 300], none⟩,
    ⟨(some 35), .a (.alloc [(.int .i64 0), (.str []), .nilslice, (.bool false), (.str []), (.int .i64 0)]), [], none⟩,
    ⟨none, .h (.store 6), [.tmp 35, .tmp 303], none⟩,
    ⟨(some 36), .p .move, [.tmp 304], none⟩])
  (.seq (.reg [⟨(some 305), .p .move, [.tmp 30], none⟩,
    ⟨(some 306), .p .not, [.tmp 305], none⟩,
    ⟨(some 307), .p .move, [.tmp 306], none⟩,
    ⟨(some 308), .p .move, [.tmp 32], some (307, true)⟩,
    ⟨(some 309), .p .not, [.tmp 308], some (307, true)⟩,
    ⟨(some 310), .p .pick, [.tmp 307, .tmp 309, .lit (.bool false)], none⟩,
    ⟨(some 311), .p .move, [.tmp 310], none⟩,
    ⟨(some 312), .p .move, [.tmp 34], some (311, true)⟩,
    ⟨(some 313), .p .not, [.tmp 312], some (311, true)⟩,
    ⟨(some 314), .p .pick, [.tmp 311, .tmp 313, .lit (.bool false)], none⟩,
    ⟨(some 315), .p .move, [.tmp 314], none⟩,
    ⟨(some 316), .p .move, [.tmp 36], some (315, true)⟩,
    ⟨(some 317), .p .not, [.tmp 316], some (315, true)⟩,
    ⟨(some 318), .p .pick, [.tmp 315, .tmp 317, .lit (.bool false)], none⟩,
    ⟨(some 319), .p .move, [.tmp 318], none⟩,
    ⟨(some 320), .p .move, [.tmp 28], some (319, true)⟩,
    ⟨(some 321), .h (.call 24), [.tmp 320], some (319, true)⟩,
    ⟨(some 322), .p .move, [.tmp 28], some (319, true)⟩,
    ⟨(some 323), .h (.call 16), [.tmp 322], some (319, true)⟩,
    ⟨(some 324), .p (.bin .add), [.tmp 321, .tmp 323], some (319, true)⟩,
    ⟨(some 325), .p (.bin .eql), [.tmp 324, .lit (.int .i64 0)], some (319, true)⟩,
    ⟨(some 326), .p .pick, [.tmp 319, .tmp 325, .lit (.bool false)], none⟩,
    ⟨(some 327), .p .move, [.tmp 326], none⟩,
    ⟨(some 328), .p .move, [.tmp 9], some (327, true)⟩,
    ⟨(some 329), .h (.call 25), [.tmp 328], some (327, true)⟩,
    ⟨(some 330), .p .pick, [.tmp 327, .tmp 329, .lit (.bool false)], none⟩,
    ⟨(some 6), .p .move, [.tmp 330], none⟩])
  .ret)))))))))))))), [.tmp 6]⟩
theorem c8 : cFunc Go.Proofs.Try.prog false 3 Go.Proofs.Try.f8 = some sf8 := by kernel_rfl
def ss8 : List Sh := [(.int .i64), (.int .i64), (.sl 408 (.st [(.int .i64), (.int .i64), (.int .i64), (.st [(.int .i64), .str, .str, .str, (.int .i64)]), (.st [(.int .i64), .str, (.sl 32 (.st [.str, .str])), .bool, .str, (.int .i64)]), (.st [(.int .i64), (.int .i64), (.int .i64), (.int .i64), (.st [(.int .i64), .str, .str, .str, (.int .i64)]), (.st [(.int .i64), .str, (.sl 32 (.st [.str, .str])), .bool, .str, (.int .i64)]), (.st [(.int .u64), (.int .u64)]), (.int .i64), (.sl 32 (.st [.str, .str])), (.int .i64), (.int .i64)])]))]
theorem cs8 : shsOf Go.Proofs.Try.prog 12 Go.Proofs.Try.f8.params.toList = some ss8 := by kernel_rfl

/-- rosary/rosarylaw21.GuestBusy -/
def sf9 : SFunc := ⟨2, 157, (.seq (.reg [⟨(some 4), .p .move, [.lit (.bool false)], none⟩])
  (.seq (.seq (.reg [⟨(some 19), .p .move, [.tmp 0], none⟩,
    ⟨(some 20), .p (.bin .lss), [.tmp 19, .lit (.int .i64 0)], none⟩,
    ⟨(some 21), .p .move, [.tmp 20], none⟩,
    ⟨(some 22), .p .move, [.tmp 0], some (21, false)⟩,
    ⟨(some 23), .p (.bin .gtr), [.tmp 22, .lit (.int .i64 2)], some (21, false)⟩,
    ⟨(some 24), .p .pick, [.tmp 21, .lit (.bool true), .tmp 23], none⟩,
    ⟨(some 25), .p .move, [.tmp 24], none⟩,
    ⟨(some 26), .p .move, [.tmp 1], some (25, false)⟩,
    ⟨(some 27), .p (.bin .lss), [.tmp 26, .lit (.int .i64 0)], some (25, false)⟩,
    ⟨(some 28), .p .pick, [.tmp 25, .lit (.bool true), .tmp 27], none⟩,
    ⟨(some 29), .p .move, [.tmp 28], none⟩,
    ⟨(some 30), .p .move, [.tmp 1], some (29, false)⟩,
    ⟨(some 31), .p (.bin .gtr), [.tmp 30, .lit (.int .i64 12)], some (29, false)⟩,
    ⟨(some 32), .p .pick, [.tmp 29, .lit (.bool true), .tmp 31], none⟩,
    ⟨(some 33), .p .move, [.tmp 32], none⟩,
    ⟨(some 34), .h (.call 10), [], some (33, false)⟩,
    ⟨(some 35), .p .not, [.tmp 34], some (33, false)⟩,
    ⟨(some 36), .p .pick, [.tmp 33, .lit (.bool true), .tmp 35], none⟩])
  (.cond (.tmp 36) (.seq (.reg [⟨(some 37), .h (.call 10), [], none⟩,
    ⟨(some 4), .p .move, [.tmp 37], none⟩])
  .ret)
  .skip))
  (.seq (.reg [⟨(some 38), .h (.call 11), [.lit (.int .i64 100), .lit (.int .i64 3)], none⟩,
    ⟨(some 5), .p .move, [.tmp 38], none⟩])
  (.seq (.seq (.reg [⟨(some 39), .p .move, [.tmp 5], none⟩,
    ⟨(some 40), .p (.eq false .ptr), [.tmp 39, .lit .nilptr], none⟩])
  (.cond (.tmp 40) (.seq (.reg [⟨(some 4), .p .move, [.lit (.bool false)], none⟩])
  .ret)
  .skip))
  (.seq (.reg [⟨(some 42), .p .move, [.tmp 5], none⟩,
    ⟨(some 43), .p (.build [(.int .i64 0), (.str []), (.str []), (.str []), (.int .i64 0)] [(0, 1), (1, 1)]), [.lit (.int .i64 3), .lit (.str [107])], none⟩,
    ⟨(some 44), .p .move, [.tmp 0], none⟩,
    ⟨(some 45), .h (.call 12), [.tmp 42, .tmp 43, .tmp 44], none⟩,
    ⟨(some 41), .p .move, [.tmp 45], none⟩,
    ⟨(some 46), .p (.extract 0), [.tmp 41], none⟩,
    ⟨(some 47), .p (.extract 1), [.tmp 41], none⟩,
    ⟨(some 6), .p .move, [.tmp 46], none⟩,
    ⟨(some 7), .p .move, [.tmp 47], none⟩])
  (.seq (.seq (.reg [⟨(some 48), .p .move, [.tmp 7], none⟩,
    ⟨(some 49), .p .not, [.tmp 48], none⟩,
    ⟨(some 50), .p .move, [.tmp 49], none⟩,
    ⟨(some 51), .p .move, [.tmp 6], some (50, false)⟩,
    ⟨(some 52), .p .lenSl, [.tmp 51], some (50, false)⟩,
    ⟨(some 53), .p (.bin .neq), [.tmp 52, .lit (.int .i64 1)], some (50, false)⟩,
    ⟨(some 54), .p .pick, [.tmp 50, .lit (.bool true), .tmp 53], none⟩])
  (.cond (.tmp 54) (.seq (.reg [⟨(some 4), .p .move, [.lit (.bool false)], none⟩])
  .ret)
  .skip))
  (.seq (.seq (.reg [⟨(some 8), .p .move, [.lit (.int .i64 1)], none⟩])
  (.block 0 (.loop [0, 1, 5, 8] (.seq (.seq (.reg [⟨(some 55), .p .move, [.tmp 8], none⟩,
    ⟨(some 56), .p .move, [.tmp 1], none⟩,
    ⟨(some 57), .p (.bin .leq), [.tmp 55, .tmp 56], none⟩])
  (.cond (.tmp 57) .skip
  (.exit 0)))
  (.seq (.block 1 (.seq (.reg [⟨(some 61), .p .move, [.tmp 5], none⟩,
    ⟨(some 62), .p .move, [.tmp 0], none⟩,
    ⟨(some 63), .p .move, [.tmp 8], none⟩,
    ⟨(some 64), .p (.build [(.int .i64 0), (.str []), .nilslice, (.bool false), (.str []), (.int .i64 0)] [(0, 1)]), [.lit (.int .i64 7)], none⟩,
    ⟨(some 65), .p (.build [(.int .i64 0), (.int .i64 0), (.int .i64 0), (.int .i64 0), (.int .i64 0), (.str []), (.str []), (.str []), (.int .i64 0), (.int .i64 0), (.str []), .nilslice, (.bool false), (.str []), (.int .i64 0), (.int .u64 0), (.int .u64 0), (.int .i64 0), .nilslice, (.int .i64 0), (.int .i64 0)] [(0, 1), (1, 1), (2, 1), (3, 1), (9, 6)]), [.lit (.int .i64 2), .tmp 62, .lit (.int .i64 100), .tmp 63, .tmp 64], none⟩,
    ⟨(some 66), .h (.call 13), [.tmp 61, .tmp 65], none⟩,
    ⟨(some 60), .p .move, [.tmp 66], none⟩,
    ⟨(some 67), .p (.extract 0), [.tmp 60], none⟩,
    ⟨(some 68), .p (.extract 1), [.tmp 60], none⟩,
    ⟨(some 9), .p .move, [.tmp 67], none⟩,
    ⟨(some 10), .p .move, [.tmp 68], none⟩])
  (.seq (.seq (.reg [⟨(some 69), .p .move, [.tmp 8], none⟩,
    ⟨(some 70), .p (.bin .geq), [.tmp 69, .lit (.int .i64 8)], none⟩])
  (.cond (.tmp 70) (.seq (.reg [⟨(some 72), .p .move, [.tmp 5], none⟩,
    ⟨(some 73), .h (.call 14), [.tmp 72], none⟩,
    ⟨(some 71), .p .move, [.tmp 73], none⟩,
    ⟨(some 74), .p (.extract 0), [.tmp 71], none⟩,
    ⟨(some 75), .p (.extract 1), [.tmp 71], none⟩,
    ⟨(some 11), .a (.alloc [(.int .i64 0), (.str []), .nilslice, (.bool false), (.str []), (.int .i64 0)]), [], none⟩,
    ⟨none, .h (.store 6), [.tmp 11, .tmp 74], none⟩,
    ⟨(some 12), .p .move, [.tmp 75], none⟩])
  (.seq (.reg [⟨(some 76), .p .move, [.tmp 10], none⟩,
    ⟨(some 77), .p .move, [.tmp 76], none⟩,
    ⟨(some 78), .p .move, [.tmp 9], some (77, true)⟩,
    ⟨(some 79), .p .lenSl, [.tmp 78], some (77, true)⟩,
    ⟨(some 80), .p (.bin .eql), [.tmp 79, .lit (.int .i64 0)], some (77, true)⟩,
    ⟨(some 81), .p .pick, [.tmp 77, .tmp 80, .lit (.bool false)], none⟩,
    ⟨(some 82), .p .move, [.tmp 81], none⟩,
    ⟨(some 83), .p .move, [.tmp 12], some (82, true)⟩,
    ⟨(some 84), .p .pick, [.tmp 82, .tmp 83, .lit (.bool false)], none⟩,
    ⟨(some 85), .p .move, [.tmp 84], none⟩,
    ⟨(some 86), .p (.fieldAddr 0), [.tmp 11], some (85, true)⟩,
    ⟨(some 87), .r (.load none), [.tmp 86], some (85, true)⟩,
    ⟨(some 88), .p (.bin .eql), [.tmp 87, .lit (.int .i64 9)], some (85, true)⟩,
    ⟨(some 89), .p .pick, [.tmp 85, .tmp 88, .lit (.bool false)], none⟩,
    ⟨(some 90), .p .move, [.tmp 89], none⟩,
    ⟨(some 91), .p .move, [.tmp 5], some (90, true)⟩,
    ⟨(some 92), .h (.call 16), [.tmp 91], some (90, true)⟩,
    ⟨(some 93), .p (.bin .eql), [.tmp 92, .lit (.int .i64 8)], some (90, true)⟩,
    ⟨(some 94), .p .pick, [.tmp 90, .tmp 93, .lit (.bool false)], none⟩,
    ⟨(some 4), .p .move, [.tmp 94], none⟩])
  .ret))
  .skip))
  (.seq (.seq (.reg [⟨(some 95), .p .move, [.tmp 10], none⟩,
    ⟨(some 96), .p .move, [.tmp 95], none⟩,
    ⟨(some 97), .p .move, [.tmp 9], some (96, false)⟩,
    ⟨(some 98), .p .lenSl, [.tmp 97], some (96, false)⟩,
    ⟨(some 99), .p (.bin .neq), [.tmp 98, .lit (.int .i64 0)], some (96, false)⟩,
    ⟨(some 100), .p .pick, [.tmp 96, .lit (.bool true), .tmp 99], none⟩,
    ⟨(some 101), .p .move, [.tmp 100], none⟩,
    ⟨(some 102), .p .move, [.tmp 5], some (101, false)⟩,
    ⟨(some 103), .h (.call 16), [.tmp 102], some (101, false)⟩,
    ⟨(some 104), .p .move, [.tmp 8], some (101, false)⟩,
    ⟨(some 105), .p (.bin .add), [.tmp 104, .lit (.int .i64 1)], some (101, false)⟩,
    ⟨(some 106), .p (.bin .neq), [.tmp 103, .tmp 105], some (101, false)⟩,
    ⟨(some 107), .p .pick, [.tmp 101, .lit (.bool true), .tmp 106], none⟩])
  (.cond (.tmp 107) (.seq (.reg [⟨(some 4), .p .move, [.lit (.bool false)], none⟩])
  .ret)
  .skip))
  (.seq (.reg [⟨(some 109), .p .move, [.tmp 5], none⟩,
    ⟨(some 110), .h (.call 15), [.tmp 109], none⟩,
    ⟨(some 108), .p .move, [.tmp 110], none⟩,
    ⟨(some 111), .p (.extract 0), [.tmp 108], none⟩,
    ⟨(some 112), .p (.extract 1), [.tmp 108], none⟩,
    ⟨(some 13), .p .move, [.tmp 111], none⟩,
    ⟨(some 14), .p .move, [.tmp 112], none⟩])
  (.seq (.reg [⟨(some 114), .p .move, [.tmp 5], none⟩,
    ⟨(some 115), .h (.call 15), [.tmp 114], none⟩,
    ⟨(some 113), .p .move, [.tmp 115], none⟩,
    ⟨(some 116), .p (.extract 0), [.tmp 113], none⟩,
    ⟨(some 117), .p (.extract 1), [.tmp 113], none⟩,
    ⟨(some 15), .p .move, [.tmp 116], none⟩,
    ⟨(some 16), .p .move, [.tmp 117], none⟩])
  (.seq (.reg [⟨(some 118), .p .move, [.tmp 13], none⟩,
    ⟨(some 119), .p .lenSl, [.tmp 118], none⟩,
    ⟨(some 120), .p (.bin .neq), [.tmp 119, .lit (.int .i64 0)], none⟩,
    ⟨(some 121), .p .move, [.tmp 120], none⟩,
    ⟨(some 122), .p .move, [.tmp 15], some (121, false)⟩,
    ⟨(some 123), .p .lenSl, [.tmp 122], some (121, false)⟩,
    ⟨(some 124), .p (.bin .neq), [.tmp 123, .lit (.int .i64 1)], some (121, false)⟩,
    ⟨(some 125), .p .pick, [.tmp 121, .lit (.bool true), .tmp 124], none⟩,
    ⟨(some 126), .p .move, [.tmp 125], none⟩,
    ⟨(some 127), .p .move, [.tmp 15], some (126, false)⟩,
    ⟨(some 128), .p (.indexAddr 21), [.tmp 127, .lit (.int .i64 0)], some (126, false)⟩,
    ⟨(some 129), .p (.fieldAddr 2), [.tmp 128], some (126, false)⟩,
    ⟨(some 130), .r (.load none), [.tmp 129], some (126, false)⟩,
    ⟨(some 131), .p .move, [.tmp 0], some (126, false)⟩,
    ⟨(some 132), .p (.bin .neq), [.tmp 130, .tmp 131], some (126, false)⟩,
    ⟨(some 133), .p .pick, [.tmp 126, .lit (.bool true), .tmp 132], none⟩,
    ⟨(some 134), .p .move, [.tmp 133], none⟩,
    ⟨(some 135), .p .move, [.tmp 15], some (134, false)⟩,
    ⟨(some 136), .p (.indexAddr 21), [.tmp 135, .lit (.int .i64 0)], some (134, false)⟩,
    ⟨(some 137), .p (.fieldAddr 3), [.tmp 136], some (134, false)⟩,
    ⟨(some 138), .r (.load none), [.tmp 137], some (134, false)⟩,
    ⟨(some 139), .p .move, [.tmp 8], some (134, false)⟩,
    ⟨(some 140), .p (.bin .add), [.tmp 139, .lit (.int .i64 1)], some (134, false)⟩,
    ⟨(some 141), .p (.bin .neq), [.tmp 138, .tmp 140], some (134, false)⟩,
    ⟨(some 142), .p .pick, [.tmp 134, .lit (.bool true), .tmp 141], none⟩])
  (.cond (.tmp 142) (.seq (.reg [⟨(some 4), .p .move, [.lit (.bool false)], none⟩])
  .ret)
  .skip))))))))
  (.reg [⟨(some 58), .p .move, [.tmp 8], none⟩,
    ⟨(some 59), .p (.bin .add), [.tmp 58, .lit (.int .i64 1)], none⟩,
    ⟨(some 8), .p .move, [.tmp 59], none⟩]))))))
  (.seq (.reg [⟨(some 144), .p .move, [.tmp 5], none⟩,
    ⟨(some 145), .h (.call 14), [.tmp 144], none⟩,
    ⟨(some 143), .p .move, [.tmp 145], none⟩,
    ⟨(some 146), .p (.extract 0), [.tmp 143], none⟩,
    ⟨(some 147), .p (.extract 1), [.tmp 143], none⟩,
    ⟨(some 17), .a (.alloc [(.int .i64 0), (.str []), .nilslice, (.bool false), (.str []), (.int .i64 0)]), [], none⟩,
    ⟨none, .h (.store 6), [.tmp 17, .tmp 146], none⟩,
    ⟨(some 18), .p .move, [.tmp 147], none⟩])
  (.seq (.reg [⟨(some 148), .p .move, [.tmp 18], none⟩,
    ⟨(some 149), .p .not, [.tmp 148], none⟩,
    ⟨(some 150), .p .move, [.tmp 149], none⟩,
    ⟨(some 151), .p .move, [.tmp 5], some (150, true)⟩,
    ⟨(some 152), .h (.call 24), [.tmp 151], some (150, true)⟩,
    ⟨(some 153), .p .move, [.tmp 1], some (150, true)⟩,
    ⟨(some 154), .p (.bin .add), [.tmp 153, .lit (.int .i64 1)], some (150, true)⟩,
    ⟨(some 155), .p (.bin .eql), [.tmp 152, .tmp 154], some (150, true)⟩,
    ⟨(some 156), .p .pick, [.tmp 150, .tmp 155, .lit (.bool false)], none⟩,
    ⟨(some 4), .p .move, [.tmp 156], none⟩])
  .ret))))))))), [.tmp 4]⟩
theorem c9 : cFunc Go.Proofs.Try.prog false 2 Go.Proofs.Try.f9 = some sf9 := by kernel_rfl
def ss9 : List Sh := [(.int .i64), (.int .i64)]
theorem cs9 : shsOf Go.Proofs.Try.prog 12 Go.Proofs.Try.f9.params.toList = some ss9 := by kernel_rfl

/-- rosary/rosarylaw21.alive -/
def sf10 : SFunc := ⟨0, 90, (.seq (.reg [⟨(some 0), .p .move, [.lit (.bool false)], none⟩])
  (.seq (.reg [⟨(some 10), .h (.call 11), [.lit (.int .i64 100), .lit (.int .i64 3)], none⟩,
    ⟨(some 1), .p .move, [.tmp 10], none⟩])
  (.seq (.seq (.reg [⟨(some 11), .p .move, [.tmp 1], none⟩,
    ⟨(some 12), .p (.eq false .ptr), [.tmp 11, .lit .nilptr], none⟩])
  (.cond (.tmp 12) (.seq (.reg [⟨(some 0), .p .move, [.lit (.bool false)], none⟩])
  .ret)
  .skip))
  (.seq (.reg [⟨(some 14), .p .move, [.tmp 1], none⟩,
    ⟨(some 15), .p (.build [(.int .i64 0), (.str []), (.str []), (.str []), (.int .i64 0)] [(0, 1), (1, 1)]), [.lit (.int .i64 1), .lit (.str [97])], none⟩,
    ⟨(some 16), .h (.call 12), [.tmp 14, .tmp 15, .lit (.int .i64 1)], none⟩,
    ⟨(some 13), .p .move, [.tmp 16], none⟩,
    ⟨(some 17), .p (.extract 0), [.tmp 13], none⟩,
    ⟨(some 18), .p (.extract 1), [.tmp 13], none⟩,
    ⟨(some 2), .p .move, [.tmp 17], none⟩,
    ⟨(some 3), .p .move, [.tmp 18], none⟩])
  (.seq (.reg [⟨(some 20), .p .move, [.tmp 1], none⟩,
    ⟨(some 21), .p (.build [(.int .i64 0), (.str []), .nilslice, (.bool false), (.str []), (.int .i64 0)] [(0, 1), (5, 1)]), [.lit (.int .i64 8), .lit (.int .i64 2)], none⟩,
    ⟨(some 22), .p (.build [(.int .i64 0), (.int .i64 0), (.int .i64 0), (.int .i64 0), (.int .i64 0), (.str []), (.str []), (.str []), (.int .i64 0), (.int .i64 0), (.str []), .nilslice, (.bool false), (.str []), (.int .i64 0), (.int .u64 0), (.int .u64 0), (.int .i64 0), .nilslice, (.int .i64 0), (.int .i64 0)] [(0, 1), (1, 1), (2, 1), (3, 1), (9, 6)]), [.lit (.int .i64 2), .lit (.int .i64 1), .lit (.int .i64 100), .lit (.int .i64 1), .tmp 21], none⟩,
    ⟨(some 23), .h (.call 13), [.tmp 20, .tmp 22], none⟩,
    ⟨(some 19), .p .move, [.tmp 23], none⟩,
    ⟨(some 24), .p (.extract 0), [.tmp 19], none⟩,
    ⟨(some 25), .p (.extract 1), [.tmp 19], none⟩,
    ⟨(some 4), .p .move, [.tmp 24], none⟩,
    ⟨(some 5), .p .move, [.tmp 25], none⟩])
  (.seq (.reg [⟨(some 27), .p .move, [.tmp 1], none⟩,
    ⟨(some 28), .p (.build [(.int .i64 0), (.str []), .nilslice, (.bool false), (.str []), (.int .i64 0)] [(1, 1)]), [.lit (.str [118])], none⟩,
    ⟨(some 29), .p (.build [(.int .i64 0), (.int .i64 0), (.int .i64 0), (.int .i64 0), (.int .i64 0), (.str []), (.str []), (.str []), (.int .i64 0), (.int .i64 0), (.str []), .nilslice, (.bool false), (.str []), (.int .i64 0), (.int .u64 0), (.int .u64 0), (.int .i64 0), .nilslice, (.int .i64 0), (.int .i64 0)] [(0, 1), (1, 1), (2, 1), (3, 1), (9, 6)]), [.lit (.int .i64 2), .lit (.int .i64 2), .lit (.int .i64 100), .lit (.int .i64 2), .tmp 28], none⟩,
    ⟨(some 30), .h (.call 13), [.tmp 27, .tmp 29], none⟩,
    ⟨(some 26), .p .move, [.tmp 30], none⟩,
    ⟨(some 31), .p (.extract 0), [.tmp 26], none⟩,
    ⟨(some 32), .p (.extract 1), [.tmp 26], none⟩,
    ⟨(some 6), .p .move, [.tmp 31], none⟩,
    ⟨(some 7), .p .move, [.tmp 32], none⟩])
  (.seq (.reg [⟨(some 34), .p .move, [.tmp 1], none⟩,
    ⟨(some 35), .h (.call 14), [.tmp 34], none⟩,
    ⟨(some 33), .p .move, [.tmp 35], none⟩,
    ⟨(some 36), .p (.extract 0), [.tmp 33], none⟩,
    ⟨(some 37), .p (.extract 1), [.tmp 33], none⟩,
    ⟨(some 8), .a (.alloc [(.int .i64 0), (.str []), .nilslice, (.bool false), (.str []), (.int .i64 0)]), [], none⟩,
    ⟨none, .h (.store 6), [.tmp 8, .tmp 36], none⟩,
    ⟨(some 9), .p .move, [.tmp 37], none⟩])
  (.seq (.reg [⟨(some 38), .p .move, [.tmp 3], none⟩,
    ⟨(some 39), .p .move, [.tmp 38], none⟩,
    ⟨(some 40), .p .move, [.tmp 2], some (39, true)⟩,
    ⟨(some 41), .p .lenSl, [.tmp 40], some (39, true)⟩,
    ⟨(some 42), .p (.bin .eql), [.tmp 41, .lit (.int .i64 1)], some (39, true)⟩,
    ⟨(some 43), .p .pick, [.tmp 39, .tmp 42, .lit (.bool false)], none⟩,
    ⟨(some 44), .p .move, [.tmp 43], none⟩,
    ⟨(some 45), .p .move, [.tmp 2], some (44, true)⟩,
    ⟨(some 46), .p (.indexAddr 21), [.tmp 45, .lit (.int .i64 0)], some (44, true)⟩,
    ⟨(some 47), .p (.fieldAddr 2), [.tmp 46], some (44, true)⟩,
    ⟨(some 48), .r (.load none), [.tmp 47], some (44, true)⟩,
    ⟨(some 49), .p (.bin .eql), [.tmp 48, .lit (.int .i64 1)], some (44, true)⟩,
    ⟨(some 50), .p .pick, [.tmp 44, .tmp 49, .lit (.bool false)], none⟩,
    ⟨(some 51), .p .move, [.tmp 50], none⟩,
    ⟨(some 52), .p .move, [.tmp 2], some (51, true)⟩,
    ⟨(some 53), .p (.indexAddr 21), [.tmp 52, .lit (.int .i64 0)], some (51, true)⟩,
    ⟨(some 54), .p (.fieldAddr 3), [.tmp 53], some (51, true)⟩,
    ⟨(some 55), .r (.load none), [.tmp 54], some (51, true)⟩,
    ⟨(some 56), .p (.bin .eql), [.tmp 55, .lit (.int .i64 1)], some (51, true)⟩,
    ⟨(some 57), .p .pick, [.tmp 51, .tmp 56, .lit (.bool false)], none⟩,
    ⟨(some 58), .p .move, [.tmp 57], none⟩,
    ⟨(some 59), .p .move, [.tmp 5], some (58, true)⟩,
    ⟨(some 60), .p .not, [.tmp 59], some (58, true)⟩,
    ⟨(some 61), .p .pick, [.tmp 58, .tmp 60, .lit (.bool false)], none⟩,
    ⟨(some 62), .p .move, [.tmp 61], none⟩,
    ⟨(some 63), .p .move, [.tmp 4], some (62, true)⟩,
    ⟨(some 64), .p .lenSl, [.tmp 63], some (62, true)⟩,
    ⟨(some 65), .p (.bin .eql), [.tmp 64, .lit (.int .i64 1)], some (62, true)⟩,
    ⟨(some 66), .p .pick, [.tmp 62, .tmp 65, .lit (.bool false)], none⟩,
    ⟨(some 67), .p .move, [.tmp 66], none⟩,
    ⟨(some 68), .p .move, [.tmp 4], some (67, true)⟩,
    ⟨(some 69), .p (.indexAddr 21), [.tmp 68, .lit (.int .i64 0)], some (67, true)⟩,
    ⟨(some 70), .p (.fieldAddr 2), [.tmp 69], some (67, true)⟩,
    ⟨(some 71), .r (.load none), [.tmp 70], some (67, true)⟩,
    ⟨(some 72), .p (.bin .eql), [.tmp 71, .lit (.int .i64 2)], some (67, true)⟩,
    ⟨(some 73), .p .pick, [.tmp 67, .tmp 72, .lit (.bool false)], none⟩,
    ⟨(some 74), .p .move, [.tmp 73], none⟩,
    ⟨(some 75), .p .move, [.tmp 7], some (74, true)⟩,
    ⟨(some 76), .p .pick, [.tmp 74, .tmp 75, .lit (.bool false)], none⟩,
    ⟨(some 77), .p .move, [.tmp 76], none⟩,
    ⟨(some 78), .p .move, [.tmp 9], some (77, true)⟩,
    ⟨(some 79), .p .pick, [.tmp 77, .tmp 78, .lit (.bool false)], none⟩,
    ⟨(some 80), .p .move, [.tmp 79], none⟩,
    ⟨(some 81), .p (.fieldAddr 1), [.tmp 8], some (80, true)⟩,
    ⟨(some 82), .r (.load none), [.tmp 81], some (80, true)⟩,
    ⟨(some 83), .p (.bin .eql), [.tmp 82, .lit (.str [118])], some (80, true)⟩,
    ⟨(some 84), .p .pick, [.tmp 80, .tmp 83, .lit (.bool false)], none⟩,
    ⟨(some 85), .p .move, [.tmp 84], none⟩,
    ⟨(some 86), .p .move, [.tmp 1], some (85, true)⟩,
    ⟨(some 87), .h (.call 16), [.tmp 86], some (85, true)⟩,
    ⟨(some 88), .p (.bin .eql), [.tmp 87, .lit (.int .i64 2)], some (85, true)⟩,
    ⟨(some 89), .p .pick, [.tmp 85, .tmp 88, .lit (.bool false)], none⟩,
    ⟨(some 0), .p .move, [.tmp 89], none⟩])
  .ret)))))))), [.tmp 0]⟩
theorem c10 : cFunc Go.Proofs.Try.prog false 0 Go.Proofs.Try.f10 = some sf10 := by kernel_rfl
def ss10 : List Sh := []
theorem cs10 : shsOf Go.Proofs.Try.prog 12 Go.Proofs.Try.f10.params.toList = some ss10 := by kernel_rfl

/-- rosary/guest.New -/
def sf11 : SFunc := ⟨2, 15, (.seq (.reg [⟨(some 4), .p .move, [.lit .nilptr], none⟩])
  (.seq (.seq (.reg [⟨(some 5), .p .move, [.tmp 1], none⟩,
    ⟨(some 6), .p (.bin .lss), [.tmp 5, .lit (.int .i64 1)], none⟩,
    ⟨(some 7), .p .move, [.tmp 6], none⟩,
    ⟨(some 8), .p .move, [.tmp 1], some (7, false)⟩,
    ⟨(some 9), .p (.bin .gtr), [.tmp 8, .lit (.int .i64 16)], some (7, false)⟩,
    ⟨(some 10), .p .pick, [.tmp 7, .lit (.bool true), .tmp 9], none⟩])
  (.cond (.tmp 10) (.seq (.reg [⟨(some 4), .p .move, [.lit .nilptr], none⟩])
  .ret)
  .skip))
  (.seq (.reg [⟨(some 11), .p .move, [.tmp 0], none⟩,
    ⟨(some 12), .p .move, [.tmp 1], none⟩,
    ⟨(some 13), .p (.build [(.int .i64 0), (.int .i64 0), (.int .i64 0), (.int .i64 0), (.int .i64 0), (.str []), (.str []), (.str []), (.int .i64 0), (.int .i64 0), (.int .i64 0), (.int .i64 0), (.bool false), (.bool false), (.int .i64 0), (.str []), .nilslice, (.bool false), (.str []), (.int .i64 0)] [(0, 1), (1, 1)]), [.tmp 11, .tmp 12], none⟩,
    ⟨(some 14), .a .box, [.tmp 13], none⟩,
    ⟨(some 4), .p .move, [.tmp 14], none⟩])
  .ret))), [.tmp 4]⟩
theorem c11 : cFunc Go.Proofs.Try.prog false 2 Go.Proofs.Try.f11 = some sf11 := by kernel_rfl

/-- (*rosary/guest.Guest).Start -/
def sf12 : SFunc := ⟨3, 66, (.seq (.reg [⟨(some 4), .a .box, [.tmp 1], none⟩,
    ⟨(some 6), .p .move, [.lit .nilslice], none⟩,
    ⟨(some 7), .p .move, [.lit (.bool false)], none⟩])
  (.seq (.seq (.reg [⟨(some 8), .p .move, [.tmp 0], none⟩,
    ⟨(some 9), .p (.eq false .ptr), [.tmp 8, .lit .nilptr], none⟩,
    ⟨(some 10), .p .move, [.tmp 9], none⟩,
    ⟨(some 11), .p .move, [.tmp 0], some (10, false)⟩,
    ⟨(some 12), .p .nilCheck, [.tmp 11], some (10, false)⟩,
    ⟨(some 13), .p (.fieldAddr 12), [.tmp 12], some (10, false)⟩,
    ⟨(some 14), .r (.load none), [.tmp 13], some (10, false)⟩,
    ⟨(some 15), .p .pick, [.tmp 10, .lit (.bool true), .tmp 14], none⟩,
    ⟨(some 16), .p .move, [.tmp 15], none⟩,
    ⟨(some 17), .p (.fieldAddr 0), [.tmp 4], some (16, false)⟩,
    ⟨(some 18), .r (.load none), [.tmp 17], some (16, false)⟩,
    ⟨(some 19), .p (.bin .neq), [.tmp 18, .lit (.int .i64 1)], some (16, false)⟩,
    ⟨(some 20), .p .move, [.tmp 19], some (16, false)⟩,
    ⟨(some 21), .p (.fieldAddr 0), [.tmp 4], some (20, true)⟩,
    ⟨(some 22), .r (.load none), [.tmp 21], some (20, true)⟩,
    ⟨(some 23), .p (.bin .neq), [.tmp 22, .lit (.int .i64 2)], some (20, true)⟩,
    ⟨(some 24), .p .pick, [.tmp 20, .tmp 23, .lit (.bool false)], some (16, false)⟩,
    ⟨(some 25), .p .move, [.tmp 24], some (16, false)⟩,
    ⟨(some 26), .p (.fieldAddr 0), [.tmp 4], some (25, true)⟩,
    ⟨(some 27), .r (.load none), [.tmp 26], some (25, true)⟩,
    ⟨(some 28), .p (.bin .neq), [.tmp 27, .lit (.int .i64 3)], some (25, true)⟩,
    ⟨(some 29), .p .pick, [.tmp 25, .tmp 28, .lit (.bool false)], some (16, false)⟩,
    ⟨(some 30), .p .pick, [.tmp 16, .lit (.bool true), .tmp 29], none⟩,
    ⟨(some 31), .p .move, [.tmp 30], none⟩,
    ⟨(some 32), .p .move, [.tmp 0], some (31, false)⟩,
    ⟨(some 33), .p .move, [.tmp 2], some (31, false)⟩,
    ⟨(some 34), .h (.call 26), [.tmp 32, .tmp 33], some (31, false)⟩,
    ⟨(some 35), .p .not, [.tmp 34], some (31, false)⟩,
    ⟨(some 36), .p .pick, [.tmp 31, .lit (.bool true), .tmp 35], none⟩])
  (.cond (.tmp 36) (.seq (.reg [⟨(some 6), .p .move, [.lit .nilslice], none⟩,
    ⟨(some 7), .p .move, [.lit (.bool false)], none⟩])
  .ret)
  .skip))
  (.seq (.reg [⟨(some 37), .p .move, [.tmp 0], none⟩,
    ⟨(some 38), .p .move, [.tmp 0], none⟩,
    ⟨(some 39), .p .move, [.tmp 0], none⟩,
    ⟨(some 40), .p .move, [.tmp 0], none⟩,
    ⟨(some 41), .p .move, [.tmp 0], none⟩,
    ⟨(some 42), .r (.load (some 5)), [.tmp 4], none⟩,
    ⟨(some 43), .p .move, [.tmp 2], none⟩,
    ⟨(some 44), .p .nilCheck, [.tmp 37], none⟩,
    ⟨(some 45), .p (.fieldAddr 4), [.tmp 44], none⟩,
    ⟨none, .h (.store 5), [.tmp 45, .tmp 42], none⟩,
    ⟨(some 46), .p .nilCheck, [.tmp 38], none⟩,
    ⟨(some 47), .p (.fieldAddr 9), [.tmp 46], none⟩,
    ⟨none, .h (.store 1), [.tmp 47, .tmp 43], none⟩,
    ⟨(some 48), .p .nilCheck, [.tmp 39], none⟩,
    ⟨(some 49), .p (.fieldAddr 3), [.tmp 48], none⟩,
    ⟨none, .h (.store 1), [.tmp 49, .lit (.int .i64 1)], none⟩,
    ⟨(some 50), .p .nilCheck, [.tmp 40], none⟩,
    ⟨(some 51), .p (.fieldAddr 10), [.tmp 50], none⟩,
    ⟨none, .h (.store 1), [.tmp 51, .lit (.int .i64 0)], none⟩,
    ⟨(some 52), .p .nilCheck, [.tmp 41], none⟩,
    ⟨(some 53), .p (.fieldAddr 11), [.tmp 52], none⟩,
    ⟨none, .h (.store 1), [.tmp 53, .lit (.int .i64 0)], none⟩])
  (.seq (.reg [⟨(some 54), .p .move, [.tmp 0], none⟩,
    ⟨(some 55), .p .move, [.tmp 0], none⟩,
    ⟨(some 56), .p .move, [.tmp 0], none⟩,
    ⟨(some 57), .p (.build [(.int .i64 0), (.str []), .nilslice, (.bool false), (.str []), (.int .i64 0)] []), [], none⟩,
    ⟨(some 58), .p .nilCheck, [.tmp 54], none⟩,
    ⟨(some 59), .p (.fieldAddr 12), [.tmp 58], none⟩,
    ⟨none, .h (.store 1), [.tmp 59, .lit (.bool true)], none⟩,
    ⟨(some 60), .p .nilCheck, [.tmp 55], none⟩,
    ⟨(some 61), .p (.fieldAddr 13), [.tmp 60], none⟩,
    ⟨none, .h (.store 1), [.tmp 61, .lit (.bool false)], none⟩,
    ⟨(some 62), .p .nilCheck, [.tmp 56], none⟩,
    ⟨(some 63), .p (.fieldAddr 14), [.tmp 62], none⟩,
    ⟨none, .h (.store 6), [.tmp 63, .tmp 57], none⟩])
  (.seq (.reg [⟨(some 64), .p .move, [.tmp 0], none⟩,
    ⟨(some 65), .h (.call 27), [.tmp 64], none⟩,
    ⟨(some 6), .p .move, [.tmp 65], none⟩,
    ⟨(some 7), .p .move, [.lit (.bool true)], none⟩])
  .ret))))), [.tmp 6, .tmp 7]⟩
theorem c12 : cFunc Go.Proofs.Try.prog false 3 Go.Proofs.Try.f12 = some sf12 := by kernel_rfl

/-- (*rosary/guest.Guest).Got -/
def sf13 : SFunc := ⟨2, 93, (.seq (.reg [⟨(some 3), .a .box, [.tmp 1], none⟩,
    ⟨(some 4), .p .move, [.lit .nilslice], none⟩,
    ⟨(some 5), .p .move, [.lit (.bool false)], none⟩])
  (.seq (.seq (.dreg [⟨[⟨(some 7), .p .move, [.tmp 0], none⟩,
    ⟨(some 8), .p (.eq false .ptr), [.tmp 7, .lit .nilptr], none⟩,
    ⟨(some 9), .p .move, [.tmp 8], none⟩,
    ⟨(some 10), .p .move, [.tmp 0], some (9, false)⟩,
    ⟨(some 11), .p .nilCheck, [.tmp 10], some (9, false)⟩,
    ⟨(some 12), .p (.fieldAddr 12), [.tmp 11], some (9, false)⟩,
    ⟨(some 13), .r (.load none), [.tmp 12], some (9, false)⟩,
    ⟨(some 14), .p .not, [.tmp 13], some (9, false)⟩,
    ⟨(some 15), .p .pick, [.tmp 9, .lit (.bool true), .tmp 14], none⟩,
    ⟨(some 16), .p .move, [.tmp 15], none⟩,
    ⟨(some 17), .p .move, [.tmp 0], some (16, false)⟩,
    ⟨(some 18), .p .nilCheck, [.tmp 17], some (16, false)⟩,
    ⟨(some 19), .p (.fieldAddr 11), [.tmp 18], some (16, false)⟩,
    ⟨(some 20), .r (.load none), [.tmp 19], some (16, false)⟩,
    ⟨(some 21), .p (.bin .gtr), [.tmp 20, .lit (.int .i64 0)], some (16, false)⟩,
    ⟨(some 22), .p .pick, [.tmp 16, .lit (.bool true), .tmp 21], none⟩,
    ⟨(some 23), .p .move, [.tmp 22], none⟩,
    ⟨(some 24), .p (.fieldAddr 0), [.tmp 3], some (23, false)⟩,
    ⟨(some 25), .r (.load none), [.tmp 24], some (23, false)⟩,
    ⟨(some 26), .p (.bin .neq), [.tmp 25, .lit (.int .i64 2)], some (23, false)⟩,
    ⟨(some 27), .p .pick, [.tmp 23, .lit (.bool true), .tmp 26], none⟩,
    ⟨(some 28), .p .move, [.tmp 27], none⟩,
    ⟨(some 29), .p (.fieldAddr 3), [.tmp 3], some (28, false)⟩,
    ⟨(some 30), .r (.load none), [.tmp 29], some (28, false)⟩,
    ⟨(some 31), .p .move, [.tmp 0], some (28, false)⟩,
    ⟨(some 32), .p .nilCheck, [.tmp 31], some (28, false)⟩,
    ⟨(some 33), .p (.fieldAddr 2), [.tmp 32], some (28, false)⟩,
    ⟨(some 34), .r (.load none), [.tmp 33], some (28, false)⟩,
    ⟨(some 35), .p (.bin .neq), [.tmp 30, .tmp 34], some (28, false)⟩,
    ⟨(some 36), .p .pick, [.tmp 28, .lit (.bool true), .tmp 35], none⟩,
    ⟨(some 37), .p .move, [.tmp 36], none⟩,
    ⟨(some 38), .p (.fieldAddr 1), [.tmp 3], some (37, false)⟩,
    ⟨(some 39), .r (.load none), [.tmp 38], some (37, false)⟩,
    ⟨(some 40), .p .move, [.tmp 0], some (37, false)⟩,
    ⟨(some 41), .p .nilCheck, [.tmp 40], some (37, false)⟩,
    ⟨(some 42), .p (.fieldAddr 9), [.tmp 41], some (37, false)⟩,
    ⟨(some 43), .r (.load none), [.tmp 42], some (37, false)⟩,
    ⟨(some 44), .p (.bin .neq), [.tmp 39, .tmp 43], some (37, false)⟩,
    ⟨(some 45), .p .pick, [.tmp 37, .lit (.bool true), .tmp 44], none⟩], [], none⟩])
  (.cond (.tmp 45) (.seq (.reg [⟨(some 4), .p .move, [.lit .nilslice], none⟩,
    ⟨(some 5), .p .move, [.lit (.bool false)], none⟩])
  .ret)
  .skip))
  (.seq (.reg [⟨(some 46), .p (.fieldAddr 9), [.tmp 3], none⟩,
    ⟨(some 47), .p (.fieldAddr 0), [.tmp 46], none⟩,
    ⟨(some 48), .r (.load none), [.tmp 47], none⟩,
    ⟨(some 6), .p .move, [.tmp 48], none⟩])
  (.seq (.seq (.reg [⟨(some 49), .p .move, [.tmp 6], none⟩,
    ⟨(some 50), .p (.bin .neq), [.tmp 49, .lit (.int .i64 7)], none⟩,
    ⟨(some 51), .p .move, [.tmp 50], none⟩,
    ⟨(some 52), .p .move, [.tmp 6], some (51, true)⟩,
    ⟨(some 53), .p (.bin .neq), [.tmp 52, .lit (.int .i64 8)], some (51, true)⟩,
    ⟨(some 54), .p .pick, [.tmp 51, .tmp 53, .lit (.bool false)], none⟩])
  (.cond (.tmp 54) (.seq (.reg [⟨(some 55), .p .move, [.tmp 0], none⟩,
    ⟨(some 56), .p (.fieldAddr 9), [.tmp 3], none⟩,
    ⟨(some 57), .r (.load (some 6)), [.tmp 56], none⟩,
    ⟨(some 58), .h (.call 28), [.tmp 55, .tmp 57], none⟩,
    ⟨(some 59), .p (.extract 0), [.tmp 58], none⟩,
    ⟨(some 60), .p (.extract 1), [.tmp 58], none⟩,
    ⟨(some 4), .p .move, [.tmp 59], none⟩,
    ⟨(some 5), .p .move, [.tmp 60], none⟩])
  .ret)
  .skip))
  (.seq (.seq (.reg [⟨(some 61), .p .move, [.tmp 0], none⟩,
    ⟨(some 62), .p .nilCheck, [.tmp 61], none⟩,
    ⟨(some 63), .p (.fieldAddr 3), [.tmp 62], none⟩,
    ⟨(some 64), .r (.load none), [.tmp 63], none⟩,
    ⟨(some 65), .p (.bin .geq), [.tmp 64, .lit (.int .i64 8)], none⟩])
  (.cond (.tmp 65) (.seq (.reg [⟨(some 66), .p .move, [.tmp 0], none⟩,
    ⟨(some 67), .p (.build [(.int .i64 0), (.str []), .nilslice, (.bool false), (.str []), (.int .i64 0)] [(0, 1)]), [.lit (.int .i64 9)], none⟩,
    ⟨(some 68), .h (.call 28), [.tmp 66, .tmp 67], none⟩,
    ⟨(some 69), .p (.extract 0), [.tmp 68], none⟩,
    ⟨(some 70), .p (.extract 1), [.tmp 68], none⟩,
    ⟨(some 4), .p .move, [.tmp 69], none⟩,
    ⟨(some 5), .p .move, [.tmp 70], none⟩])
  .ret)
  .skip))
  (.seq (.reg [⟨(some 71), .p .move, [.tmp 0], none⟩,
    ⟨(some 72), .p .nilCheck, [.tmp 71], none⟩,
    ⟨(some 73), .p (.fieldAddr 3), [.tmp 72], none⟩,
    ⟨(some 74), .r (.load none), [.tmp 73], none⟩,
    ⟨(some 75), .p (.bin .add), [.tmp 74, .lit (.int .i64 1)], none⟩,
    ⟨(some 76), .p .nilCheck, [.tmp 71], none⟩,
    ⟨(some 77), .p (.fieldAddr 3), [.tmp 76], none⟩,
    ⟨none, .h (.store 1), [.tmp 77, .tmp 75], none⟩])
  (.seq (.seq (.reg [⟨(some 78), .p .move, [.tmp 6], none⟩,
    ⟨(some 79), .p (.bin .eql), [.tmp 78, .lit (.int .i64 7)], none⟩])
  (.cond (.tmp 79) (.seq (.reg [⟨(some 80), .p .move, [.tmp 0], none⟩,
    ⟨(some 81), .p .nilCheck, [.tmp 80], none⟩,
    ⟨(some 82), .p (.fieldAddr 11), [.tmp 81], none⟩,
    ⟨none, .h (.store 1), [.tmp 82, .lit (.int .i64 2)], none⟩])
  (.seq (.reg [⟨(some 4), .p .move, [.lit .nilslice], none⟩,
    ⟨(some 5), .p .move, [.lit (.bool false)], none⟩])
  .ret))
  .skip))
  (.seq (.reg [⟨(some 83), .p .move, [.tmp 0], none⟩,
    ⟨(some 84), .p .move, [.tmp 0], none⟩,
    ⟨(some 85), .p (.fieldAddr 9), [.tmp 3], none⟩,
    ⟨(some 86), .p (.fieldAddr 5), [.tmp 85], none⟩,
    ⟨(some 87), .r (.load none), [.tmp 86], none⟩,
    ⟨(some 88), .h (.call 29), [.tmp 84, .tmp 87], none⟩,
    ⟨(some 89), .p .nilCheck, [.tmp 83], none⟩,
    ⟨(some 90), .p (.fieldAddr 9), [.tmp 89], none⟩,
    ⟨none, .h (.store 1), [.tmp 90, .tmp 88], none⟩])
  (.seq (.reg [⟨(some 91), .p .move, [.tmp 0], none⟩,
    ⟨(some 92), .h (.call 27), [.tmp 91], none⟩,
    ⟨(some 4), .p .move, [.tmp 92], none⟩,
    ⟨(some 5), .p .move, [.lit (.bool false)], none⟩])
  .ret))))))))), [.tmp 4, .tmp 5]⟩
theorem c13 : cFunc Go.Proofs.Try.prog false 2 Go.Proofs.Try.f13 = some sf13 := by kernel_rfl

/-- (*rosary/guest.Guest).Result -/
def sf14 : SFunc := ⟨1, 24, (.seq (.reg [⟨(some 2), .a (.alloc [(.int .i64 0), (.str []), .nilslice, (.bool false), (.str []), (.int .i64 0)]), [], none⟩,
    ⟨(some 3), .p .move, [.lit (.bool false)], none⟩])
  (.seq (.seq (.reg [⟨(some 5), .p .move, [.tmp 0], none⟩,
    ⟨(some 6), .p (.eq false .ptr), [.tmp 5, .lit .nilptr], none⟩,
    ⟨(some 7), .p .move, [.tmp 6], none⟩,
    ⟨(some 8), .p .move, [.tmp 0], some (7, false)⟩,
    ⟨(some 9), .p .nilCheck, [.tmp 8], some (7, false)⟩,
    ⟨(some 10), .p (.fieldAddr 13), [.tmp 9], some (7, false)⟩,
    ⟨(some 11), .r (.load none), [.tmp 10], some (7, false)⟩,
    ⟨(some 12), .p .not, [.tmp 11], some (7, false)⟩,
    ⟨(some 13), .p .pick, [.tmp 7, .lit (.bool true), .tmp 12], none⟩])
  (.cond (.tmp 13) (.seq (.reg [⟨(some 14), .p (.build [(.int .i64 0), (.str []), .nilslice, (.bool false), (.str []), (.int .i64 0)] []), [], none⟩,
    ⟨none, .h (.store 6), [.tmp 2, .tmp 14], none⟩,
    ⟨(some 3), .p .move, [.lit (.bool false)], none⟩])
  .ret)
  .skip))
  (.seq (.reg [⟨(some 15), .p .move, [.tmp 0], none⟩,
    ⟨(some 16), .p .nilCheck, [.tmp 15], none⟩,
    ⟨(some 17), .p (.fieldAddr 14), [.tmp 16], none⟩,
    ⟨(some 18), .r (.load (some 6)), [.tmp 17], none⟩,
    ⟨(some 4), .a (.alloc [(.int .i64 0), (.str []), .nilslice, (.bool false), (.str []), (.int .i64 0)]), [], none⟩,
    ⟨none, .h (.store 6), [.tmp 4, .tmp 18], none⟩])
  (.seq (.reg [⟨(some 19), .p (.fieldAddr 2), [.tmp 4], none⟩,
    ⟨(some 20), .r (.load none), [.tmp 19], none⟩,
    ⟨(some 21), .h (.append 2 false), [.lit .nilslice, .tmp 20], none⟩,
    ⟨(some 22), .p (.fieldAddr 2), [.tmp 4], none⟩,
    ⟨none, .h (.store 1), [.tmp 22, .tmp 21], none⟩])
  (.seq (.reg [⟨(some 23), .r (.load (some 6)), [.tmp 4], none⟩,
    ⟨none, .h (.store 6), [.tmp 2, .tmp 23], none⟩,
    ⟨(some 3), .p .move, [.lit (.bool true)], none⟩])
  .ret))))), [.cell 2 (some 6), .tmp 3]⟩
theorem c14 : cFunc Go.Proofs.Try.prog false 1 Go.Proofs.Try.f14 = some sf14 := by kernel_rfl

/-- (*rosary/guest.Guest).Tick -/
def sf15 : SFunc := ⟨1, 49, (.seq (.reg [⟨(some 2), .p .move, [.lit .nilslice], none⟩,
    ⟨(some 3), .p .move, [.lit (.bool false)], none⟩])
  (.seq (.seq (.reg [⟨(some 4), .p .move, [.tmp 0], none⟩,
    ⟨(some 5), .p (.eq false .ptr), [.tmp 4, .lit .nilptr], none⟩,
    ⟨(some 6), .p .move, [.tmp 5], none⟩,
    ⟨(some 7), .p .move, [.tmp 0], some (6, false)⟩,
    ⟨(some 8), .p .nilCheck, [.tmp 7], some (6, false)⟩,
    ⟨(some 9), .p (.fieldAddr 12), [.tmp 8], some (6, false)⟩,
    ⟨(some 10), .r (.load none), [.tmp 9], some (6, false)⟩,
    ⟨(some 11), .p .not, [.tmp 10], some (6, false)⟩,
    ⟨(some 12), .p .pick, [.tmp 6, .lit (.bool true), .tmp 11], none⟩])
  (.cond (.tmp 12) (.seq (.reg [⟨(some 2), .p .move, [.lit .nilslice], none⟩,
    ⟨(some 3), .p .move, [.lit (.bool false)], none⟩])
  .ret)
  .skip))
  (.seq (.reg [⟨(some 13), .p .move, [.tmp 0], none⟩,
    ⟨(some 14), .p .nilCheck, [.tmp 13], none⟩,
    ⟨(some 15), .p (.fieldAddr 10), [.tmp 14], none⟩,
    ⟨(some 16), .r (.load none), [.tmp 15], none⟩,
    ⟨(some 17), .p (.bin .add), [.tmp 16, .lit (.int .i64 1)], none⟩,
    ⟨(some 18), .p .nilCheck, [.tmp 13], none⟩,
    ⟨(some 19), .p (.fieldAddr 10), [.tmp 18], none⟩,
    ⟨none, .h (.store 1), [.tmp 19, .tmp 17], none⟩])
  (.seq (.seq (.reg [⟨(some 20), .p .move, [.tmp 0], none⟩,
    ⟨(some 21), .p .nilCheck, [.tmp 20], none⟩,
    ⟨(some 22), .p (.fieldAddr 10), [.tmp 21], none⟩,
    ⟨(some 23), .r (.load none), [.tmp 22], none⟩,
    ⟨(some 24), .p (.bin .geq), [.tmp 23, .lit (.int .i64 30)], none⟩])
  (.cond (.tmp 24) (.seq (.reg [⟨(some 25), .p .move, [.tmp 0], none⟩,
    ⟨(some 26), .p (.build [(.int .i64 0), (.str []), .nilslice, (.bool false), (.str []), (.int .i64 0)] [(0, 1)]), [.lit (.int .i64 9)], none⟩,
    ⟨(some 27), .h (.call 28), [.tmp 25, .tmp 26], none⟩,
    ⟨(some 28), .p (.extract 0), [.tmp 27], none⟩,
    ⟨(some 29), .p (.extract 1), [.tmp 27], none⟩,
    ⟨(some 2), .p .move, [.tmp 28], none⟩,
    ⟨(some 3), .p .move, [.tmp 29], none⟩])
  .ret)
  .skip))
  (.seq (.seq (.reg [⟨(some 30), .p .move, [.tmp 0], none⟩,
    ⟨(some 31), .p .nilCheck, [.tmp 30], none⟩,
    ⟨(some 32), .p (.fieldAddr 11), [.tmp 31], none⟩,
    ⟨(some 33), .r (.load none), [.tmp 32], none⟩,
    ⟨(some 34), .p (.bin .gtr), [.tmp 33, .lit (.int .i64 0)], none⟩])
  (.cond (.tmp 34) (.seq (.reg [⟨(some 35), .p .move, [.tmp 0], none⟩,
    ⟨(some 36), .p .nilCheck, [.tmp 35], none⟩,
    ⟨(some 37), .p (.fieldAddr 11), [.tmp 36], none⟩,
    ⟨(some 38), .r (.load none), [.tmp 37], none⟩,
    ⟨(some 39), .p (.bin .sub), [.tmp 38, .lit (.int .i64 1)], none⟩,
    ⟨(some 40), .p .nilCheck, [.tmp 35], none⟩,
    ⟨(some 41), .p (.fieldAddr 11), [.tmp 40], none⟩,
    ⟨none, .h (.store 1), [.tmp 41, .tmp 39], none⟩])
  (.seq (.reg [⟨(some 42), .p .move, [.tmp 0], none⟩,
    ⟨(some 43), .p .nilCheck, [.tmp 42], none⟩,
    ⟨(some 44), .p (.fieldAddr 11), [.tmp 43], none⟩,
    ⟨(some 45), .r (.load none), [.tmp 44], none⟩,
    ⟨(some 46), .p (.bin .eql), [.tmp 45, .lit (.int .i64 0)], none⟩])
  (.cond (.tmp 46) (.seq (.reg [⟨(some 47), .p .move, [.tmp 0], none⟩,
    ⟨(some 48), .h (.call 27), [.tmp 47], none⟩,
    ⟨(some 2), .p .move, [.tmp 48], none⟩,
    ⟨(some 3), .p .move, [.lit (.bool false)], none⟩])
  .ret)
  .skip)))
  .skip))
  (.seq (.reg [⟨(some 2), .p .move, [.lit .nilslice], none⟩,
    ⟨(some 3), .p .move, [.lit (.bool false)], none⟩])
  .ret)))))), [.tmp 2, .tmp 3]⟩
theorem c15 : cFunc Go.Proofs.Try.prog false 1 Go.Proofs.Try.f15 = some sf15 := by kernel_rfl

/-- (*rosary/guest.Guest).Tried -/
def sf16 : SFunc := ⟨1, 9, (.seq (.reg [⟨(some 2), .p .move, [.lit (.int .i64 0)], none⟩])
  (.seq (.seq (.reg [⟨(some 3), .p .move, [.tmp 0], none⟩,
    ⟨(some 4), .p (.eq false .ptr), [.tmp 3, .lit .nilptr], none⟩])
  (.cond (.tmp 4) (.seq (.reg [⟨(some 2), .p .move, [.lit (.int .i64 0)], none⟩])
  .ret)
  .skip))
  (.seq (.reg [⟨(some 5), .p .move, [.tmp 0], none⟩,
    ⟨(some 6), .p .nilCheck, [.tmp 5], none⟩,
    ⟨(some 7), .p (.fieldAddr 3), [.tmp 6], none⟩,
    ⟨(some 8), .r (.load none), [.tmp 7], none⟩,
    ⟨(some 2), .p .move, [.tmp 8], none⟩])
  .ret))), [.tmp 2]⟩
theorem c16 : cFunc Go.Proofs.Try.prog false 1 Go.Proofs.Try.f16 = some sf16 := by kernel_rfl

/-- (*rosary/rosaryref19.Guest).Begin -/
def sf17 : SFunc := ⟨3, 26, (.seq (.reg [⟨(some 4), .a .box, [.tmp 1], none⟩,
    ⟨(some 6), .p .move, [.lit .nilslice], none⟩])
  (.seq (.dreg [⟨[⟨(some 7), .p .move, [.tmp 0], none⟩,
    ⟨(some 8), .p .move, [.tmp 0], none⟩,
    ⟨(some 9), .p .move, [.tmp 0], none⟩,
    ⟨(some 10), .p .move, [.tmp 0], none⟩,
    ⟨(some 11), .p .move, [.tmp 0], none⟩,
    ⟨(some 12), .r (.load (some 5)), [.tmp 4], none⟩,
    ⟨(some 13), .p .nilCheck, [.tmp 7], none⟩,
    ⟨(some 14), .p (.fieldAddr 4), [.tmp 13], none⟩], [], some ⟨none, .h (.store 1), [.tmp 14, .lit (.bool true)], none⟩⟩,
   ⟨[⟨(some 15), .p .nilCheck, [.tmp 8], none⟩,
    ⟨(some 16), .p (.fieldAddr 5), [.tmp 15], none⟩], [⟨(some 12), .r (.load (some 5)), [.tmp 4], none⟩], some ⟨none, .h (.store 1), [.tmp 16, .lit (.bool false)], none⟩⟩,
   ⟨[⟨(some 17), .p .nilCheck, [.tmp 9], none⟩,
    ⟨(some 18), .p (.fieldAddr 9), [.tmp 17], none⟩], [⟨(some 12), .r (.load (some 5)), [.tmp 4], none⟩], some ⟨none, .h (.store 5), [.tmp 18, .tmp 12], none⟩⟩,
   ⟨[⟨(some 19), .p .nilCheck, [.tmp 10], none⟩,
    ⟨(some 20), .p (.fieldAddr 3), [.tmp 19], none⟩], [], some ⟨none, .h (.store 1), [.tmp 20, .lit (.int .i64 1)], none⟩⟩,
   ⟨[⟨(some 21), .p .nilCheck, [.tmp 11], none⟩,
    ⟨(some 22), .p (.fieldAddr 7), [.tmp 21], none⟩], [], some ⟨none, .h (.store 1), [.tmp 22, .lit (.int .i64 0)], none⟩⟩,
   ⟨[], [], none⟩])
  (.seq (.reg [⟨(some 23), .p .move, [.tmp 0], none⟩,
    ⟨(some 24), .p .move, [.tmp 2], none⟩,
    ⟨(some 25), .h (.call 30), [.tmp 23, .tmp 24], none⟩,
    ⟨(some 6), .p .move, [.tmp 25], none⟩])
  .ret))), [.tmp 6]⟩
theorem c17 : cFunc Go.Proofs.Try.prog false 3 Go.Proofs.Try.f17 = some sf17 := by kernel_rfl

/-- (*rosary/rosarybook.Book).Letters -/
def sf18 : SFunc := ⟨2, 31, (.seq (.reg [⟨(some 4), .p .move, [.tmp 0], none⟩,
    ⟨(some 5), .p .nilCheck, [.tmp 4], none⟩,
    ⟨(some 6), .p (.fieldAddr 12), [.tmp 5], none⟩,
    ⟨(some 7), .r (.load none), [.tmp 6], none⟩,
    ⟨(some 8), .p .lenSl, [.tmp 7], none⟩,
    ⟨(some 9), .p (.bin .lss), [.tmp 8, .lit (.int .i64 250)], none⟩])
  (.cond (.tmp 9) (.seq (.reg [⟨(some 10), .p .move, [.tmp 0], none⟩,
    ⟨(some 11), .p .move, [.tmp 0], none⟩,
    ⟨(some 12), .p .nilCheck, [.tmp 11], none⟩,
    ⟨(some 13), .p (.fieldAddr 12), [.tmp 12], none⟩,
    ⟨(some 14), .r (.load none), [.tmp 13], none⟩,
    ⟨(some 15), .p .move, [.tmp 1], none⟩,
    ⟨(some 16), .a (.buildSlice 1 1 [.nilslice] [0]), [.tmp 15], none⟩,
    ⟨(some 17), .h (.append 1 false), [.tmp 14, .tmp 16], none⟩,
    ⟨(some 18), .p .nilCheck, [.tmp 10], none⟩,
    ⟨(some 19), .p (.fieldAddr 12), [.tmp 18], none⟩,
    ⟨none, .h (.store 1), [.tmp 19, .tmp 17], none⟩])
  (.dreg [⟨[⟨(some 20), .p .move, [.tmp 0], none⟩,
    ⟨(some 21), .p .move, [.tmp 0], none⟩,
    ⟨(some 22), .p .nilCheck, [.tmp 21], none⟩,
    ⟨(some 23), .p (.fieldAddr 13), [.tmp 22], none⟩,
    ⟨(some 24), .r (.load none), [.tmp 23], none⟩,
    ⟨(some 25), .p .move, [.tmp 1], none⟩], [], some ⟨(some 26), .h (.call 31), [.tmp 25], none⟩⟩,
   ⟨[⟨(some 27), .a (.buildSlice 1 1 [.nilslice] [0]), [.tmp 26], none⟩], [⟨(some 24), .r (.load none), [.tmp 23], none⟩], some ⟨(some 28), .h (.append 1 false), [.tmp 24, .tmp 27], none⟩⟩,
   ⟨[⟨(some 29), .p .nilCheck, [.tmp 20], none⟩,
    ⟨(some 30), .p (.fieldAddr 13), [.tmp 29], none⟩], [], some ⟨none, .h (.store 1), [.tmp 30, .tmp 28], none⟩⟩,
   ⟨[], [], none⟩]))
  .skip)), []⟩
theorem c18 : cFunc Go.Proofs.Try.prog false 2 Go.Proofs.Try.f18 = some sf18 := by kernel_rfl

/-- rosary/rosarybook.SameLetters -/
def sf19 : SFunc := ⟨2, 27, (.seq (.reg [⟨(some 4), .p .move, [.lit (.bool false)], none⟩])
  (.seq (.seq (.reg [⟨(some 6), .p .move, [.tmp 0], none⟩,
    ⟨(some 7), .p .lenSl, [.tmp 6], none⟩,
    ⟨(some 8), .p .move, [.tmp 1], none⟩,
    ⟨(some 9), .p .lenSl, [.tmp 8], none⟩,
    ⟨(some 10), .p (.bin .neq), [.tmp 7, .tmp 9], none⟩])
  (.cond (.tmp 10) (.seq (.reg [⟨(some 4), .p .move, [.lit (.bool false)], none⟩])
  .ret)
  .skip))
  (.seq (.seq (.reg [⟨(some 5), .p .move, [.lit (.int .i64 0)], none⟩])
  (.block 0 (.loop [0, 1, 5] (.seq (.seq (.reg [⟨(some 11), .p .move, [.tmp 5], none⟩,
    ⟨(some 12), .p .move, [.tmp 0], none⟩,
    ⟨(some 13), .p .lenSl, [.tmp 12], none⟩,
    ⟨(some 14), .p (.bin .lss), [.tmp 11, .tmp 13], none⟩])
  (.cond (.tmp 14) .skip
  (.exit 0)))
  (.seq (.block 1 (.seq (.dreg [⟨[⟨(some 17), .p .move, [.tmp 0], none⟩,
    ⟨(some 18), .p .move, [.tmp 5], none⟩,
    ⟨(some 19), .p (.indexAddr 21), [.tmp 17, .tmp 18], none⟩,
    ⟨(some 20), .r (.load (some 21)), [.tmp 19], none⟩,
    ⟨(some 21), .p .move, [.tmp 1], none⟩,
    ⟨(some 22), .p .move, [.tmp 5], none⟩,
    ⟨(some 23), .p (.indexAddr 21), [.tmp 21, .tmp 22], none⟩,
    ⟨(some 24), .r (.load (some 21)), [.tmp 23], none⟩], [], some ⟨(some 25), .h (.call 32), [.tmp 20, .tmp 24], none⟩⟩,
   ⟨[⟨(some 26), .p .not, [.tmp 25], none⟩], [], none⟩])
  (.cond (.tmp 26) (.seq (.reg [⟨(some 4), .p .move, [.lit (.bool false)], none⟩])
  .ret)
  .skip)))
  (.reg [⟨(some 15), .p .move, [.tmp 5], none⟩,
    ⟨(some 16), .p (.bin .add), [.tmp 15, .lit (.int .i64 1)], none⟩,
    ⟨(some 5), .p .move, [.tmp 16], none⟩]))))))
  (.seq (.reg [⟨(some 4), .p .move, [.lit (.bool true)], none⟩])
  .ret)))), [.tmp 4]⟩
theorem c19 : cFunc Go.Proofs.Try.prog false 2 Go.Proofs.Try.f19 = some sf19 := by kernel_rfl

/-- (*rosary/rosaryref19.Guest).Tick -/
def sf20 : SFunc := ⟨1, 49, (.seq (.reg [⟨(some 2), .p .move, [.lit .nilslice], none⟩,
    ⟨(some 3), .p .move, [.lit (.bool false)], none⟩])
  (.seq (.seq (.reg [⟨(some 4), .p .move, [.tmp 0], none⟩,
    ⟨(some 5), .p .nilCheck, [.tmp 4], none⟩,
    ⟨(some 6), .p (.fieldAddr 4), [.tmp 5], none⟩,
    ⟨(some 7), .r (.load none), [.tmp 6], none⟩,
    ⟨(some 8), .p .not, [.tmp 7], none⟩])
  (.cond (.tmp 8) (.seq (.reg [⟨(some 2), .p .move, [.lit .nilslice], none⟩,
    ⟨(some 3), .p .move, [.lit (.bool false)], none⟩])
  .ret)
  .skip))
  (.seq (.reg [⟨(some 9), .p .move, [.tmp 0], none⟩,
    ⟨(some 10), .p .nilCheck, [.tmp 9], none⟩,
    ⟨(some 11), .p (.fieldAddr 7), [.tmp 10], none⟩,
    ⟨(some 12), .r (.load none), [.tmp 11], none⟩,
    ⟨(some 13), .p (.bin .add), [.tmp 12, .lit (.int .i64 1)], none⟩,
    ⟨(some 14), .p .nilCheck, [.tmp 9], none⟩,
    ⟨(some 15), .p (.fieldAddr 7), [.tmp 14], none⟩,
    ⟨none, .h (.store 1), [.tmp 15, .tmp 13], none⟩])
  (.seq (.seq (.reg [⟨(some 16), .p .move, [.tmp 0], none⟩,
    ⟨(some 17), .p .nilCheck, [.tmp 16], none⟩,
    ⟨(some 18), .p (.fieldAddr 7), [.tmp 17], none⟩,
    ⟨(some 19), .r (.load none), [.tmp 18], none⟩,
    ⟨(some 20), .p (.bin .geq), [.tmp 19, .lit (.int .i64 30)], none⟩])
  (.cond (.tmp 20) (.seq (.reg [⟨(some 21), .p .move, [.tmp 0], none⟩,
    ⟨(some 22), .p (.build [(.int .i64 0), (.str []), .nilslice, (.bool false), (.str []), (.int .i64 0)] [(0, 1)]), [.lit (.int .i64 9)], none⟩,
    ⟨(some 23), .h (.call 33), [.tmp 21, .tmp 22], none⟩,
    ⟨(some 24), .p (.extract 0), [.tmp 23], none⟩,
    ⟨(some 25), .p (.extract 1), [.tmp 23], none⟩,
    ⟨(some 2), .p .move, [.tmp 24], none⟩,
    ⟨(some 3), .p .move, [.tmp 25], none⟩])
  .ret)
  .skip))
  (.seq (.seq (.reg [⟨(some 26), .p .move, [.tmp 0], none⟩,
    ⟨(some 27), .p .nilCheck, [.tmp 26], none⟩,
    ⟨(some 28), .p (.fieldAddr 8), [.tmp 27], none⟩,
    ⟨(some 29), .r (.load none), [.tmp 28], none⟩,
    ⟨(some 30), .p (.bin .gtr), [.tmp 29, .lit (.int .i64 0)], none⟩])
  (.cond (.tmp 30) (.seq (.reg [⟨(some 31), .p .move, [.tmp 0], none⟩,
    ⟨(some 32), .p .nilCheck, [.tmp 31], none⟩,
    ⟨(some 33), .p (.fieldAddr 8), [.tmp 32], none⟩,
    ⟨(some 34), .r (.load none), [.tmp 33], none⟩,
    ⟨(some 35), .p (.bin .sub), [.tmp 34, .lit (.int .i64 1)], none⟩,
    ⟨(some 36), .p .nilCheck, [.tmp 31], none⟩,
    ⟨(some 37), .p (.fieldAddr 8), [.tmp 36], none⟩,
    ⟨none, .h (.store 1), [.tmp 37, .tmp 35], none⟩])
  (.seq (.reg [⟨(some 38), .p .move, [.tmp 0], none⟩,
    ⟨(some 39), .p .nilCheck, [.tmp 38], none⟩,
    ⟨(some 40), .p (.fieldAddr 8), [.tmp 39], none⟩,
    ⟨(some 41), .r (.load none), [.tmp 40], none⟩,
    ⟨(some 42), .p (.bin .eql), [.tmp 41, .lit (.int .i64 0)], none⟩])
  (.cond (.tmp 42) (.seq (.reg [⟨(some 43), .p .move, [.tmp 0], none⟩,
    ⟨(some 44), .p .move, [.tmp 0], none⟩,
    ⟨(some 45), .p .nilCheck, [.tmp 44], none⟩,
    ⟨(some 46), .p (.fieldAddr 6), [.tmp 45], none⟩,
    ⟨(some 47), .r (.load none), [.tmp 46], none⟩,
    ⟨(some 48), .h (.call 30), [.tmp 43, .tmp 47], none⟩,
    ⟨(some 2), .p .move, [.tmp 48], none⟩,
    ⟨(some 3), .p .move, [.lit (.bool false)], none⟩])
  .ret)
  .skip)))
  .skip))
  (.seq (.reg [⟨(some 2), .p .move, [.lit .nilslice], none⟩,
    ⟨(some 3), .p .move, [.lit (.bool false)], none⟩])
  .ret)))))), [.tmp 2, .tmp 3]⟩
theorem c20 : cFunc Go.Proofs.Try.prog false 1 Go.Proofs.Try.f20 = some sf20 := by kernel_rfl

/-- (*rosary/rosaryref19.Guest).Got -/
def sf21 : SFunc := ⟨2, 32, (.seq (.reg [⟨(some 3), .a .box, [.tmp 1], none⟩,
    ⟨(some 4), .p .move, [.lit .nilslice], none⟩,
    ⟨(some 5), .p .move, [.lit (.bool false)], none⟩])
  (.seq (.seq (.reg [⟨(some 6), .p .move, [.tmp 0], none⟩,
    ⟨(some 7), .r (.load (some 21)), [.tmp 3], none⟩,
    ⟨(some 8), .h (.call 34), [.tmp 6, .tmp 7], none⟩,
    ⟨(some 9), .p .not, [.tmp 8], none⟩])
  (.cond (.tmp 9) (.seq (.reg [⟨(some 4), .p .move, [.lit .nilslice], none⟩,
    ⟨(some 5), .p .move, [.lit (.bool false)], none⟩])
  .ret)
  .skip))
  (.seq (.seq (.reg [⟨(some 10), .p (.fieldAddr 9), [.tmp 3], none⟩,
    ⟨(some 11), .p (.fieldAddr 0), [.tmp 10], none⟩,
    ⟨(some 12), .r (.load none), [.tmp 11], none⟩,
    ⟨(some 13), .p (.bin .eql), [.tmp 12, .lit (.int .i64 7)], none⟩,
    ⟨(some 14), .p .move, [.tmp 13], none⟩,
    ⟨(some 15), .p (.fieldAddr 9), [.tmp 3], some (14, false)⟩,
    ⟨(some 16), .p (.fieldAddr 0), [.tmp 15], some (14, false)⟩,
    ⟨(some 17), .r (.load none), [.tmp 16], some (14, false)⟩,
    ⟨(some 18), .p (.bin .eql), [.tmp 17, .lit (.int .i64 8)], some (14, false)⟩,
    ⟨(some 19), .p .pick, [.tmp 14, .lit (.bool true), .tmp 18], none⟩])
  (.cond (.tmp 19) (.seq (.reg [⟨(some 20), .p .move, [.tmp 0], none⟩,
    ⟨(some 21), .p (.fieldAddr 9), [.tmp 3], none⟩,
    ⟨(some 22), .r (.load (some 6)), [.tmp 21], none⟩,
    ⟨(some 23), .h (.call 35), [.tmp 20, .tmp 22], none⟩,
    ⟨(some 24), .p (.extract 0), [.tmp 23], none⟩,
    ⟨(some 25), .p (.extract 1), [.tmp 23], none⟩,
    ⟨(some 4), .p .move, [.tmp 24], none⟩,
    ⟨(some 5), .p .move, [.tmp 25], none⟩])
  .ret)
  .skip))
  (.seq (.reg [⟨(some 26), .p .move, [.tmp 0], none⟩,
    ⟨(some 27), .p (.fieldAddr 9), [.tmp 3], none⟩,
    ⟨(some 28), .r (.load (some 6)), [.tmp 27], none⟩,
    ⟨(some 29), .h (.call 33), [.tmp 26, .tmp 28], none⟩,
    ⟨(some 30), .p (.extract 0), [.tmp 29], none⟩,
    ⟨(some 31), .p (.extract 1), [.tmp 29], none⟩,
    ⟨(some 4), .p .move, [.tmp 30], none⟩,
    ⟨(some 5), .p .move, [.tmp 31], none⟩])
  .ret)))), [.tmp 4, .tmp 5]⟩
theorem c21 : cFunc Go.Proofs.Try.prog false 2 Go.Proofs.Try.f21 = some sf21 := by kernel_rfl

/-- (*rosary/rosarybook.Book).Items -/
def sf22 : SFunc := ⟨2, 31, (.seq (.reg [⟨(some 4), .p .move, [.tmp 0], none⟩,
    ⟨(some 5), .p .nilCheck, [.tmp 4], none⟩,
    ⟨(some 6), .p (.fieldAddr 6), [.tmp 5], none⟩,
    ⟨(some 7), .r (.load none), [.tmp 6], none⟩,
    ⟨(some 8), .p .lenSl, [.tmp 7], none⟩,
    ⟨(some 9), .p (.bin .lss), [.tmp 8, .lit (.int .i64 250)], none⟩])
  (.cond (.tmp 9) (.seq (.reg [⟨(some 10), .p .move, [.tmp 0], none⟩,
    ⟨(some 11), .p .move, [.tmp 0], none⟩,
    ⟨(some 12), .p .nilCheck, [.tmp 11], none⟩,
    ⟨(some 13), .p (.fieldAddr 6), [.tmp 12], none⟩,
    ⟨(some 14), .r (.load none), [.tmp 13], none⟩,
    ⟨(some 15), .p .move, [.tmp 1], none⟩,
    ⟨(some 16), .a (.buildSlice 1 1 [.nilslice] [0]), [.tmp 15], none⟩,
    ⟨(some 17), .h (.append 1 false), [.tmp 14, .tmp 16], none⟩,
    ⟨(some 18), .p .nilCheck, [.tmp 10], none⟩,
    ⟨(some 19), .p (.fieldAddr 6), [.tmp 18], none⟩,
    ⟨none, .h (.store 1), [.tmp 19, .tmp 17], none⟩])
  (.dreg [⟨[⟨(some 20), .p .move, [.tmp 0], none⟩,
    ⟨(some 21), .p .move, [.tmp 0], none⟩,
    ⟨(some 22), .p .nilCheck, [.tmp 21], none⟩,
    ⟨(some 23), .p (.fieldAddr 7), [.tmp 22], none⟩,
    ⟨(some 24), .r (.load none), [.tmp 23], none⟩,
    ⟨(some 25), .p .move, [.tmp 1], none⟩], [], some ⟨(some 26), .h (.call 36), [.tmp 25], none⟩⟩,
   ⟨[⟨(some 27), .a (.buildSlice 1 1 [.nilslice] [0]), [.tmp 26], none⟩], [⟨(some 24), .r (.load none), [.tmp 23], none⟩], some ⟨(some 28), .h (.append 1 false), [.tmp 24, .tmp 27], none⟩⟩,
   ⟨[⟨(some 29), .p .nilCheck, [.tmp 20], none⟩,
    ⟨(some 30), .p (.fieldAddr 7), [.tmp 29], none⟩], [], some ⟨none, .h (.store 1), [.tmp 30, .tmp 28], none⟩⟩,
   ⟨[], [], none⟩]))
  .skip)), []⟩
theorem c22 : cFunc Go.Proofs.Try.prog false 2 Go.Proofs.Try.f22 = some sf22 := by kernel_rfl

/-- rosary/rosarybook.SameTold -/
def sf23 : SFunc := ⟨2, 45, (.seq (.reg [⟨(some 2), .a .box, [.tmp 0], none⟩,
    ⟨(some 3), .a .box, [.tmp 1], none⟩,
    ⟨(some 4), .p .move, [.lit (.bool false)], none⟩])
  (.seq (.reg [⟨(some 5), .p (.fieldAddr 0), [.tmp 2], none⟩,
    ⟨(some 6), .r (.load none), [.tmp 5], none⟩,
    ⟨(some 7), .p (.fieldAddr 0), [.tmp 3], none⟩,
    ⟨(some 8), .r (.load none), [.tmp 7], none⟩,
    ⟨(some 9), .p (.bin .eql), [.tmp 6, .tmp 8], none⟩,
    ⟨(some 10), .p .move, [.tmp 9], none⟩,
    ⟨(some 11), .p (.fieldAddr 1), [.tmp 2], some (10, true)⟩,
    ⟨(some 12), .r (.load none), [.tmp 11], some (10, true)⟩,
    ⟨(some 13), .p (.fieldAddr 1), [.tmp 3], some (10, true)⟩,
    ⟨(some 14), .r (.load none), [.tmp 13], some (10, true)⟩,
    ⟨(some 15), .p (.bin .eql), [.tmp 12, .tmp 14], some (10, true)⟩,
    ⟨(some 16), .p .pick, [.tmp 10, .tmp 15, .lit (.bool false)], none⟩,
    ⟨(some 17), .p .move, [.tmp 16], none⟩,
    ⟨(some 18), .p (.fieldAddr 2), [.tmp 2], some (17, true)⟩,
    ⟨(some 19), .r (.load none), [.tmp 18], some (17, true)⟩,
    ⟨(some 20), .p (.fieldAddr 2), [.tmp 3], some (17, true)⟩,
    ⟨(some 21), .r (.load none), [.tmp 20], some (17, true)⟩,
    ⟨(some 22), .h (.call 37), [.tmp 19, .tmp 21], some (17, true)⟩,
    ⟨(some 23), .p .pick, [.tmp 17, .tmp 22, .lit (.bool false)], none⟩,
    ⟨(some 24), .p .move, [.tmp 23], none⟩,
    ⟨(some 25), .p (.fieldAddr 3), [.tmp 2], some (24, true)⟩,
    ⟨(some 26), .r (.load none), [.tmp 25], some (24, true)⟩,
    ⟨(some 27), .p (.fieldAddr 3), [.tmp 3], some (24, true)⟩,
    ⟨(some 28), .r (.load none), [.tmp 27], some (24, true)⟩,
    ⟨(some 29), .p (.eq false .bool), [.tmp 26, .tmp 28], some (24, true)⟩,
    ⟨(some 30), .p .pick, [.tmp 24, .tmp 29, .lit (.bool false)], none⟩,
    ⟨(some 31), .p .move, [.tmp 30], none⟩,
    ⟨(some 32), .p (.fieldAddr 4), [.tmp 2], some (31, true)⟩,
    ⟨(some 33), .r (.load none), [.tmp 32], some (31, true)⟩,
    ⟨(some 34), .p (.fieldAddr 4), [.tmp 3], some (31, true)⟩,
    ⟨(some 35), .r (.load none), [.tmp 34], some (31, true)⟩,
    ⟨(some 36), .p (.bin .eql), [.tmp 33, .tmp 35], some (31, true)⟩,
    ⟨(some 37), .p .pick, [.tmp 31, .tmp 36, .lit (.bool false)], none⟩,
    ⟨(some 38), .p .move, [.tmp 37], none⟩,
    ⟨(some 39), .p (.fieldAddr 5), [.tmp 2], some (38, true)⟩,
    ⟨(some 40), .r (.load none), [.tmp 39], some (38, true)⟩,
    ⟨(some 41), .p (.fieldAddr 5), [.tmp 3], some (38, true)⟩,
    ⟨(some 42), .r (.load none), [.tmp 41], some (38, true)⟩,
    ⟨(some 43), .p (.bin .eql), [.tmp 40, .tmp 42], some (38, true)⟩,
    ⟨(some 44), .p .pick, [.tmp 38, .tmp 43, .lit (.bool false)], none⟩,
    ⟨(some 4), .p .move, [.tmp 44], none⟩])
  .ret)), [.tmp 4]⟩
theorem c23 : cFunc Go.Proofs.Try.prog false 2 Go.Proofs.Try.f23 = some sf23 := by kernel_rfl

/-- (*rosary/guest.Guest).Id -/
def sf24 : SFunc := ⟨1, 9, (.seq (.reg [⟨(some 2), .p .move, [.lit (.int .i64 0)], none⟩])
  (.seq (.seq (.reg [⟨(some 3), .p .move, [.tmp 0], none⟩,
    ⟨(some 4), .p (.eq false .ptr), [.tmp 3, .lit .nilptr], none⟩])
  (.cond (.tmp 4) (.seq (.reg [⟨(some 2), .p .move, [.lit (.int .i64 0)], none⟩])
  .ret)
  .skip))
  (.seq (.reg [⟨(some 5), .p .move, [.tmp 0], none⟩,
    ⟨(some 6), .p .nilCheck, [.tmp 5], none⟩,
    ⟨(some 7), .p (.fieldAddr 2), [.tmp 6], none⟩,
    ⟨(some 8), .r (.load none), [.tmp 7], none⟩,
    ⟨(some 2), .p .move, [.tmp 8], none⟩])
  .ret))), [.tmp 2]⟩
theorem c24 : cFunc Go.Proofs.Try.prog false 1 Go.Proofs.Try.f24 = some sf24 := by kernel_rfl

/-- (*rosary/rosarybook.Book).Apart -/
def sf25 : SFunc := ⟨1, 134, (.seq (.reg [⟨(some 2), .p .move, [.lit (.bool false)], none⟩])
  (.seq (.seq (.reg [⟨(some 10), .p .move, [.tmp 0], none⟩,
    ⟨(some 11), .h (.call 38), [.tmp 10], none⟩,
    ⟨(some 12), .p .not, [.tmp 11], none⟩])
  (.cond (.tmp 12) (.seq (.reg [⟨(some 2), .p .move, [.lit (.bool false)], none⟩])
  .ret)
  .skip))
  (.seq (.seq (.reg [⟨(some 13), .p .move, [.tmp 0], none⟩,
    ⟨(some 14), .h (.call 39), [.tmp 13], none⟩,
    ⟨(some 15), .p .not, [.tmp 14], none⟩])
  (.cond (.tmp 15) (.seq (.reg [⟨(some 2), .p .move, [.lit (.bool false)], none⟩])
  .ret)
  .skip))
  (.seq (.seq (.reg [⟨(some 16), .p .move, [.tmp 0], none⟩,
    ⟨(some 17), .h (.call 40), [.tmp 16], none⟩,
    ⟨(some 18), .p .not, [.tmp 17], none⟩])
  (.cond (.tmp 18) (.seq (.reg [⟨(some 2), .p .move, [.lit (.bool false)], none⟩])
  .ret)
  .skip))
  (.seq (.seq (.reg [⟨(some 19), .p .move, [.tmp 0], none⟩,
    ⟨(some 20), .h (.call 41), [.tmp 19], none⟩,
    ⟨(some 21), .p .not, [.tmp 20], none⟩])
  (.cond (.tmp 21) (.seq (.reg [⟨(some 2), .p .move, [.lit (.bool false)], none⟩])
  .ret)
  .skip))
  (.seq (.seq (.reg [⟨(some 22), .p .move, [.tmp 0], none⟩,
    ⟨(some 23), .h (.call 42), [.tmp 22], none⟩,
    ⟨(some 24), .p .not, [.tmp 23], none⟩])
  (.cond (.tmp 24) (.seq (.reg [⟨(some 2), .p .move, [.lit (.bool false)], none⟩])
  .ret)
  .skip))
  (.seq (.seq (.reg [⟨(some 25), .p .move, [.tmp 0], none⟩,
    ⟨(some 26), .h (.call 43), [.tmp 25], none⟩,
    ⟨(some 27), .p .not, [.tmp 26], none⟩])
  (.cond (.tmp 27) (.seq (.reg [⟨(some 2), .p .move, [.lit (.bool false)], none⟩])
  .ret)
  .skip))
  (.seq (.seq (.reg [⟨(some 28), .p .move, [.tmp 0], none⟩,
    ⟨(some 29), .h (.call 44), [.tmp 28], none⟩,
    ⟨(some 30), .p .not, [.tmp 29], none⟩])
  (.cond (.tmp 30) (.seq (.reg [⟨(some 2), .p .move, [.lit (.bool false)], none⟩])
  .ret)
  .skip))
  (.seq (.reg [⟨(some 31), .p .move, [.tmp 0], none⟩,
    ⟨(some 32), .h (.call 45), [.tmp 31], none⟩])
  (.seq (.reg [⟨(some 33), .p .move, [.tmp 0], none⟩,
    ⟨(some 34), .h (.call 46), [.tmp 33], none⟩])
  (.seq (.reg [⟨(some 35), .p .move, [.tmp 0], none⟩,
    ⟨(some 36), .h (.call 47), [.tmp 35], none⟩])
  (.seq (.reg [⟨(some 37), .p .move, [.tmp 0], none⟩,
    ⟨(some 38), .h (.call 48), [.tmp 37], none⟩])
  (.seq (.reg [⟨(some 39), .p .move, [.tmp 0], none⟩,
    ⟨(some 40), .h (.call 49), [.tmp 39], none⟩])
  (.seq (.reg [⟨(some 41), .p .move, [.tmp 0], none⟩,
    ⟨(some 42), .h (.call 50), [.tmp 41], none⟩])
  (.seq (.reg [⟨(some 43), .p .move, [.tmp 0], none⟩,
    ⟨(some 44), .h (.call 51), [.tmp 43], none⟩])
  (.seq (.reg [⟨(some 45), .p .move, [.tmp 0], none⟩,
    ⟨(some 46), .h (.call 52), [.tmp 45], none⟩,
    ⟨(some 3), .p .move, [.tmp 46], none⟩])
  (.seq (.reg [⟨(some 47), .p .move, [.tmp 0], none⟩,
    ⟨(some 48), .h (.call 53), [.tmp 47], none⟩,
    ⟨(some 4), .p .move, [.tmp 48], none⟩])
  (.seq (.reg [⟨(some 49), .p .move, [.tmp 0], none⟩,
    ⟨(some 50), .h (.call 54), [.tmp 49], none⟩,
    ⟨(some 5), .p .move, [.tmp 50], none⟩])
  (.seq (.reg [⟨(some 51), .p .move, [.tmp 0], none⟩,
    ⟨(some 52), .h (.call 55), [.tmp 51], none⟩,
    ⟨(some 6), .p .move, [.tmp 52], none⟩])
  (.seq (.reg [⟨(some 53), .p .move, [.tmp 0], none⟩,
    ⟨(some 54), .h (.call 56), [.tmp 53], none⟩,
    ⟨(some 7), .p .move, [.tmp 54], none⟩])
  (.seq (.reg [⟨(some 55), .p .move, [.tmp 0], none⟩,
    ⟨(some 56), .h (.call 57), [.tmp 55], none⟩,
    ⟨(some 8), .p .move, [.tmp 56], none⟩])
  (.seq (.reg [⟨(some 57), .p .move, [.tmp 0], none⟩,
    ⟨(some 58), .h (.call 58), [.tmp 57], none⟩,
    ⟨(some 9), .p .move, [.tmp 58], none⟩])
  (.seq (.reg [⟨(some 59), .p .move, [.tmp 3], none⟩,
    ⟨(some 60), .h (.call 59), [.tmp 59], none⟩,
    ⟨(some 61), .p .move, [.tmp 60], none⟩,
    ⟨(some 62), .p .move, [.tmp 0], some (61, true)⟩,
    ⟨(some 63), .p .nilCheck, [.tmp 62], some (61, true)⟩,
    ⟨(some 64), .p (.fieldAddr 0), [.tmp 63], some (61, true)⟩,
    ⟨(some 65), .r (.load none), [.tmp 64], some (61, true)⟩,
    ⟨(some 66), .h (.call 59), [.tmp 65], some (61, true)⟩,
    ⟨(some 67), .p .pick, [.tmp 61, .tmp 66, .lit (.bool false)], none⟩,
    ⟨(some 68), .p .move, [.tmp 67], none⟩,
    ⟨(some 69), .p .move, [.tmp 4], some (68, true)⟩,
    ⟨(some 70), .h (.call 60), [.tmp 69], some (68, true)⟩,
    ⟨(some 71), .p .pick, [.tmp 68, .tmp 70, .lit (.bool false)], none⟩,
    ⟨(some 72), .p .move, [.tmp 71], none⟩,
    ⟨(some 73), .p .move, [.tmp 0], some (72, true)⟩,
    ⟨(some 74), .p .nilCheck, [.tmp 73], some (72, true)⟩,
    ⟨(some 75), .p (.fieldAddr 2), [.tmp 74], some (72, true)⟩,
    ⟨(some 76), .r (.load none), [.tmp 75], some (72, true)⟩,
    ⟨(some 77), .h (.call 60), [.tmp 76], some (72, true)⟩,
    ⟨(some 78), .p .pick, [.tmp 72, .tmp 77, .lit (.bool false)], none⟩,
    ⟨(some 79), .p .move, [.tmp 78], none⟩,
    ⟨(some 80), .p .move, [.tmp 5], some (79, true)⟩,
    ⟨(some 81), .h (.call 61), [.tmp 80], some (79, true)⟩,
    ⟨(some 82), .p .pick, [.tmp 79, .tmp 81, .lit (.bool false)], none⟩,
    ⟨(some 83), .p .move, [.tmp 82], none⟩,
    ⟨(some 84), .p .move, [.tmp 0], some (83, true)⟩,
    ⟨(some 85), .p .nilCheck, [.tmp 84], some (83, true)⟩,
    ⟨(some 86), .p (.fieldAddr 4), [.tmp 85], some (83, true)⟩,
    ⟨(some 87), .r (.load none), [.tmp 86], some (83, true)⟩,
    ⟨(some 88), .h (.call 61), [.tmp 87], some (83, true)⟩,
    ⟨(some 89), .p .pick, [.tmp 83, .tmp 88, .lit (.bool false)], none⟩,
    ⟨(some 90), .p .move, [.tmp 89], none⟩,
    ⟨(some 91), .p .move, [.tmp 6], some (90, true)⟩,
    ⟨(some 92), .h (.call 62), [.tmp 91], some (90, true)⟩,
    ⟨(some 93), .p .pick, [.tmp 90, .tmp 92, .lit (.bool false)], none⟩,
    ⟨(some 94), .p .move, [.tmp 93], none⟩,
    ⟨(some 95), .p .move, [.tmp 0], some (94, true)⟩,
    ⟨(some 96), .p .nilCheck, [.tmp 95], some (94, true)⟩,
    ⟨(some 97), .p (.fieldAddr 6), [.tmp 96], some (94, true)⟩,
    ⟨(some 98), .r (.load none), [.tmp 97], some (94, true)⟩,
    ⟨(some 99), .h (.call 62), [.tmp 98], some (94, true)⟩,
    ⟨(some 100), .p .pick, [.tmp 94, .tmp 99, .lit (.bool false)], none⟩,
    ⟨(some 101), .p .move, [.tmp 100], none⟩,
    ⟨(some 102), .p .move, [.tmp 7], some (101, true)⟩,
    ⟨(some 103), .h (.call 63), [.tmp 102], some (101, true)⟩,
    ⟨(some 104), .p .pick, [.tmp 101, .tmp 103, .lit (.bool false)], none⟩,
    ⟨(some 105), .p .move, [.tmp 104], none⟩,
    ⟨(some 106), .p .move, [.tmp 0], some (105, true)⟩,
    ⟨(some 107), .p .nilCheck, [.tmp 106], some (105, true)⟩,
    ⟨(some 108), .p (.fieldAddr 8), [.tmp 107], some (105, true)⟩,
    ⟨(some 109), .r (.load none), [.tmp 108], some (105, true)⟩,
    ⟨(some 110), .h (.call 63), [.tmp 109], some (105, true)⟩,
    ⟨(some 111), .p .pick, [.tmp 105, .tmp 110, .lit (.bool false)], none⟩,
    ⟨(some 112), .p .move, [.tmp 111], none⟩,
    ⟨(some 113), .p .move, [.tmp 8], some (112, true)⟩,
    ⟨(some 114), .h (.call 64), [.tmp 113], some (112, true)⟩,
    ⟨(some 115), .p .pick, [.tmp 112, .tmp 114, .lit (.bool false)], none⟩,
    ⟨(some 116), .p .move, [.tmp 115], none⟩,
    ⟨(some 117), .p .move, [.tmp 0], some (116, true)⟩,
    ⟨(some 118), .p .nilCheck, [.tmp 117], some (116, true)⟩,
    ⟨(some 119), .p (.fieldAddr 10), [.tmp 118], some (116, true)⟩,
    ⟨(some 120), .r (.load none), [.tmp 119], some (116, true)⟩,
    ⟨(some 121), .h (.call 64), [.tmp 120], some (116, true)⟩,
    ⟨(some 122), .p .pick, [.tmp 116, .tmp 121, .lit (.bool false)], none⟩,
    ⟨(some 123), .p .move, [.tmp 122], none⟩,
    ⟨(some 124), .p .move, [.tmp 9], some (123, true)⟩,
    ⟨(some 125), .h (.call 65), [.tmp 124], some (123, true)⟩,
    ⟨(some 126), .p .pick, [.tmp 123, .tmp 125, .lit (.bool false)], none⟩,
    ⟨(some 127), .p .move, [.tmp 126], none⟩,
    ⟨(some 128), .p .move, [.tmp 0], some (127, true)⟩,
    ⟨(some 129), .p .nilCheck, [.tmp 128], some (127, true)⟩,
    ⟨(some 130), .p (.fieldAddr 12), [.tmp 129], some (127, true)⟩,
    ⟨(some 131), .r (.load none), [.tmp 130], some (127, true)⟩,
    ⟨(some 132), .h (.call 65), [.tmp 131], some (127, true)⟩,
    ⟨(some 133), .p .pick, [.tmp 127, .tmp 132, .lit (.bool false)], none⟩,
    ⟨(some 2), .p .move, [.tmp 133], none⟩])
  .ret))))))))))))))))))))))), [.tmp 2]⟩
theorem c25 : cFunc Go.Proofs.Try.prog false 1 Go.Proofs.Try.f25 = some sf25 := by kernel_rfl

/-- (*rosary/guest.Guest).there -/
def sf26 : SFunc := ⟨2, 15, (.seq (.reg [⟨(some 4), .p .move, [.lit (.bool false)], none⟩])
  (.seq (.reg [⟨(some 5), .p .move, [.tmp 1], none⟩,
    ⟨(some 6), .p (.bin .geq), [.tmp 5, .lit (.int .i64 0)], none⟩,
    ⟨(some 7), .p .move, [.tmp 6], none⟩,
    ⟨(some 8), .p .move, [.tmp 1], some (7, true)⟩,
    ⟨(some 9), .p .move, [.tmp 0], some (7, true)⟩,
    ⟨(some 10), .p .nilCheck, [.tmp 9], some (7, true)⟩,
    ⟨(some 11), .p (.fieldAddr 1), [.tmp 10], some (7, true)⟩,
    ⟨(some 12), .r (.load none), [.tmp 11], some (7, true)⟩,
    ⟨(some 13), .p (.bin .lss), [.tmp 8, .tmp 12], some (7, true)⟩,
    ⟨(some 14), .p .pick, [.tmp 7, .tmp 13, .lit (.bool false)], none⟩,
    ⟨(some 4), .p .move, [.tmp 14], none⟩])
  .ret)), [.tmp 4]⟩
theorem c26 : cFunc Go.Proofs.Try.prog false 2 Go.Proofs.Try.f26 = some sf26 := by kernel_rfl

/-- (*rosary/guest.Guest).ask -/
def sf27 : SFunc := ⟨1, 28, (.seq (.reg [⟨(some 2), .p .move, [.lit .nilslice], none⟩])
  (.seq (.reg [⟨(some 3), .p .move, [.tmp 0], none⟩,
    ⟨(some 4), .p .nilCheck, [.tmp 3], none⟩,
    ⟨(some 5), .p (.fieldAddr 2), [.tmp 4], none⟩,
    ⟨(some 6), .r (.load none), [.tmp 5], none⟩,
    ⟨(some 7), .p (.bin .add), [.tmp 6, .lit (.int .i64 1)], none⟩,
    ⟨(some 8), .p .nilCheck, [.tmp 3], none⟩,
    ⟨(some 9), .p (.fieldAddr 2), [.tmp 8], none⟩,
    ⟨none, .h (.store 1), [.tmp 9, .tmp 7], none⟩])
  (.seq (.dreg [⟨[⟨(some 10), .p .move, [.tmp 0], none⟩,
    ⟨(some 11), .p .nilCheck, [.tmp 10], none⟩,
    ⟨(some 12), .p (.fieldAddr 0), [.tmp 11], none⟩,
    ⟨(some 13), .r (.load none), [.tmp 12], none⟩,
    ⟨(some 14), .p .move, [.tmp 0], none⟩,
    ⟨(some 15), .p .nilCheck, [.tmp 14], none⟩,
    ⟨(some 16), .p (.fieldAddr 9), [.tmp 15], none⟩,
    ⟨(some 17), .r (.load none), [.tmp 16], none⟩,
    ⟨(some 18), .p .move, [.tmp 0], none⟩,
    ⟨(some 19), .p .nilCheck, [.tmp 18], none⟩,
    ⟨(some 20), .p (.fieldAddr 2), [.tmp 19], none⟩,
    ⟨(some 21), .r (.load none), [.tmp 20], none⟩,
    ⟨(some 22), .p .move, [.tmp 0], none⟩,
    ⟨(some 23), .p .nilCheck, [.tmp 22], none⟩,
    ⟨(some 24), .p (.fieldAddr 4), [.tmp 23], none⟩,
    ⟨(some 25), .r (.load (some 5)), [.tmp 24], none⟩,
    ⟨(some 26), .p (.build [(.int .i64 0), (.int .i64 0), (.int .i64 0), (.int .i64 0), (.int .i64 0), (.str []), (.str []), (.str []), (.int .i64 0), (.int .i64 0), (.str []), .nilslice, (.bool false), (.str []), (.int .i64 0), (.int .u64 0), (.int .u64 0), (.int .i64 0), .nilslice, (.int .i64 0), (.int .i64 0)] [(0, 1), (1, 1), (2, 1), (3, 1), (4, 5)]), [.lit (.int .i64 1), .tmp 13, .tmp 17, .tmp 21, .tmp 25], none⟩,
    ⟨(some 27), .a (.buildSlice 21 1 [(.int .i64 0), (.int .i64 0), (.int .i64 0), (.int .i64 0), (.int .i64 0), (.str []), (.str []), (.str []), (.int .i64 0), (.int .i64 0), (.str []), .nilslice, (.bool false), (.str []), (.int .i64 0), (.int .u64 0), (.int .u64 0), (.int .i64 0), .nilslice, (.int .i64 0), (.int .i64 0)] [0]), [.tmp 26], none⟩,
    ⟨(some 2), .p .move, [.tmp 27], none⟩], [], none⟩])
  .ret))), [.tmp 2]⟩
theorem c27 : cFunc Go.Proofs.Try.prog false 1 Go.Proofs.Try.f27 = some sf27 := by kernel_rfl

/-- (*rosary/guest.Guest).ends -/
def sf28 : SFunc := ⟨2, 23, (.seq (.reg [⟨(some 3), .a .box, [.tmp 1], none⟩,
    ⟨(some 4), .p .move, [.lit .nilslice], none⟩,
    ⟨(some 5), .p .move, [.lit (.bool false)], none⟩])
  (.seq (.reg [⟨(some 6), .p (.fieldAddr 2), [.tmp 3], none⟩,
    ⟨(some 7), .r (.load none), [.tmp 6], none⟩,
    ⟨(some 8), .h (.append 2 false), [.lit .nilslice, .tmp 7], none⟩,
    ⟨(some 9), .p (.fieldAddr 2), [.tmp 3], none⟩,
    ⟨none, .h (.store 1), [.tmp 9, .tmp 8], none⟩])
  (.seq (.dreg [⟨[⟨(some 10), .p .move, [.tmp 0], none⟩,
    ⟨(some 11), .p .move, [.tmp 0], none⟩,
    ⟨(some 12), .p .move, [.tmp 0], none⟩,
    ⟨(some 13), .p .move, [.tmp 0], none⟩,
    ⟨(some 14), .r (.load (some 6)), [.tmp 3], none⟩,
    ⟨(some 15), .p .nilCheck, [.tmp 10], none⟩,
    ⟨(some 16), .p (.fieldAddr 12), [.tmp 15], none⟩], [], some ⟨none, .h (.store 1), [.tmp 16, .lit (.bool false)], none⟩⟩,
   ⟨[⟨(some 17), .p .nilCheck, [.tmp 11], none⟩,
    ⟨(some 18), .p (.fieldAddr 13), [.tmp 17], none⟩], [⟨(some 14), .r (.load (some 6)), [.tmp 3], none⟩], some ⟨none, .h (.store 1), [.tmp 18, .lit (.bool true)], none⟩⟩,
   ⟨[⟨(some 19), .p .nilCheck, [.tmp 12], none⟩,
    ⟨(some 20), .p (.fieldAddr 11), [.tmp 19], none⟩], [⟨(some 14), .r (.load (some 6)), [.tmp 3], none⟩], some ⟨none, .h (.store 1), [.tmp 20, .lit (.int .i64 0)], none⟩⟩,
   ⟨[⟨(some 21), .p .nilCheck, [.tmp 13], none⟩,
    ⟨(some 22), .p (.fieldAddr 14), [.tmp 21], none⟩], [⟨(some 14), .r (.load (some 6)), [.tmp 3], none⟩], some ⟨none, .h (.store 6), [.tmp 22, .tmp 14], none⟩⟩,
   ⟨[], [], none⟩])
  (.seq (.reg [⟨(some 4), .p .move, [.lit .nilslice], none⟩,
    ⟨(some 5), .p .move, [.lit (.bool true)], none⟩])
  .ret)))), [.tmp 4, .tmp 5]⟩
theorem c28 : cFunc Go.Proofs.Try.prog false 2 Go.Proofs.Try.f28 = some sf28 := by kernel_rfl

/-- (*rosary/guest.Guest).elsewhere -/
def sf29 : SFunc := ⟨2, 43, (.seq (.reg [⟨(some 4), .p .move, [.lit (.int .i64 0)], none⟩])
  (.scope (.seq (.reg [⟨(some 6), .p .move, [.tmp 1], none⟩,
    ⟨(some 5), .p .move, [.tmp 6], none⟩])
  (.seq .skip
  (.seq (.block 0 (.loop [0, 5] (.block 1 (.seq (.block 2 (.seq (.reg [⟨(some 8), .p .move, [.tmp 0], none⟩,
    ⟨(some 9), .p .move, [.tmp 5], none⟩,
    ⟨(some 10), .h (.call 26), [.tmp 8, .tmp 9], none⟩,
    ⟨(some 11), .p .move, [.tmp 10], none⟩,
    ⟨(some 12), .p .move, [.tmp 5], some (11, true)⟩,
    ⟨(some 13), .p .move, [.tmp 0], some (11, true)⟩,
    ⟨(some 14), .p .nilCheck, [.tmp 13], some (11, true)⟩,
    ⟨(some 15), .p (.fieldAddr 9), [.tmp 14], some (11, true)⟩,
    ⟨(some 16), .r (.load none), [.tmp 15], some (11, true)⟩,
    ⟨(some 17), .p (.bin .neq), [.tmp 12, .tmp 16], some (11, true)⟩,
    ⟨(some 18), .p .pick, [.tmp 11, .tmp 17, .lit (.bool false)], none⟩,
    ⟨(some 7), .p .move, [.tmp 18], none⟩])
  (.cond (.tmp 7) (.exit 0)
  (.seq (.dreg [⟨[⟨(some 20), .p .move, [.tmp 5], none⟩,
    ⟨(some 21), .p .move, [.tmp 0], none⟩,
    ⟨(some 22), .p .nilCheck, [.tmp 21], none⟩,
    ⟨(some 23), .p (.fieldAddr 9), [.tmp 22], none⟩,
    ⟨(some 24), .r (.load none), [.tmp 23], none⟩,
    ⟨(some 25), .p (.bin .add), [.tmp 24, .lit (.int .i64 1)], none⟩,
    ⟨(some 26), .p .move, [.tmp 0], none⟩,
    ⟨(some 27), .p .nilCheck, [.tmp 26], none⟩,
    ⟨(some 28), .p (.fieldAddr 1), [.tmp 27], none⟩,
    ⟨(some 29), .r (.load none), [.tmp 28], none⟩,
    ⟨(some 30), .p (.bin .rem), [.tmp 25, .tmp 29], none⟩,
    ⟨(some 31), .p (.bin .eql), [.tmp 20, .tmp 30], none⟩,
    ⟨(some 19), .p .move, [.tmp 31], none⟩], [], none⟩])
  (.cond (.tmp 19) (.exit 0)
  .skip)))))
  (.dreg [⟨[⟨(some 32), .p .move, [.tmp 0], none⟩,
    ⟨(some 33), .p .nilCheck, [.tmp 32], none⟩,
    ⟨(some 34), .p (.fieldAddr 9), [.tmp 33], none⟩,
    ⟨(some 35), .r (.load none), [.tmp 34], none⟩,
    ⟨(some 36), .p (.bin .add), [.tmp 35, .lit (.int .i64 1)], none⟩,
    ⟨(some 37), .p .move, [.tmp 0], none⟩,
    ⟨(some 38), .p .nilCheck, [.tmp 37], none⟩,
    ⟨(some 39), .p (.fieldAddr 1), [.tmp 38], none⟩,
    ⟨(some 40), .r (.load none), [.tmp 39], none⟩,
    ⟨(some 41), .p (.bin .rem), [.tmp 36, .tmp 40], none⟩,
    ⟨(some 5), .p .move, [.tmp 41], none⟩], [], none⟩])))))
  (.seq (.reg [⟨(some 42), .p .move, [.tmp 5], none⟩,
    ⟨(some 4), .p .move, [.tmp 42], none⟩])
  .ret)))))), [.tmp 4]⟩
theorem c29 : cFunc Go.Proofs.Try.prog false 2 Go.Proofs.Try.f29 = some sf29 := by kernel_rfl

/-- (*rosary/rosaryref19.Guest).ask -/
def sf30 : SFunc := ⟨2, 34, (.seq (.reg [⟨(some 4), .p .move, [.lit .nilslice], none⟩])
  (.seq (.reg [⟨(some 5), .p .move, [.tmp 0], none⟩,
    ⟨(some 6), .p .nilCheck, [.tmp 5], none⟩,
    ⟨(some 7), .p (.fieldAddr 2), [.tmp 6], none⟩,
    ⟨(some 8), .r (.load none), [.tmp 7], none⟩,
    ⟨(some 9), .p (.bin .add), [.tmp 8, .lit (.int .i64 1)], none⟩,
    ⟨(some 10), .p .nilCheck, [.tmp 5], none⟩,
    ⟨(some 11), .p (.fieldAddr 2), [.tmp 10], none⟩,
    ⟨none, .h (.store 1), [.tmp 11, .tmp 9], none⟩])
  (.seq (.reg [⟨(some 12), .p .move, [.tmp 0], none⟩,
    ⟨(some 13), .p .move, [.tmp 0], none⟩,
    ⟨(some 14), .p .move, [.tmp 1], none⟩,
    ⟨(some 15), .p .nilCheck, [.tmp 12], none⟩,
    ⟨(some 16), .p (.fieldAddr 6), [.tmp 15], none⟩,
    ⟨none, .h (.store 1), [.tmp 16, .tmp 14], none⟩,
    ⟨(some 17), .p .nilCheck, [.tmp 13], none⟩,
    ⟨(some 18), .p (.fieldAddr 8), [.tmp 17], none⟩,
    ⟨none, .h (.store 1), [.tmp 18, .lit (.int .i64 0)], none⟩])
  (.seq (.dreg [⟨[⟨(some 19), .p .move, [.tmp 0], none⟩,
    ⟨(some 20), .p .nilCheck, [.tmp 19], none⟩,
    ⟨(some 21), .p (.fieldAddr 0), [.tmp 20], none⟩,
    ⟨(some 22), .r (.load none), [.tmp 21], none⟩,
    ⟨(some 23), .p .move, [.tmp 1], none⟩,
    ⟨(some 24), .p .move, [.tmp 0], none⟩,
    ⟨(some 25), .p .nilCheck, [.tmp 24], none⟩,
    ⟨(some 26), .p (.fieldAddr 2), [.tmp 25], none⟩,
    ⟨(some 27), .r (.load none), [.tmp 26], none⟩,
    ⟨(some 28), .p .move, [.tmp 0], none⟩,
    ⟨(some 29), .p .nilCheck, [.tmp 28], none⟩,
    ⟨(some 30), .p (.fieldAddr 9), [.tmp 29], none⟩,
    ⟨(some 31), .r (.load (some 5)), [.tmp 30], none⟩,
    ⟨(some 32), .p (.build [(.int .i64 0), (.int .i64 0), (.int .i64 0), (.int .i64 0), (.int .i64 0), (.str []), (.str []), (.str []), (.int .i64 0), (.int .i64 0), (.str []), .nilslice, (.bool false), (.str []), (.int .i64 0), (.int .u64 0), (.int .u64 0), (.int .i64 0), .nilslice, (.int .i64 0), (.int .i64 0)] [(0, 1), (1, 1), (2, 1), (3, 1), (4, 5)]), [.lit (.int .i64 1), .tmp 22, .tmp 23, .tmp 27, .tmp 31], none⟩,
    ⟨(some 33), .a (.buildSlice 21 1 [(.int .i64 0), (.int .i64 0), (.int .i64 0), (.int .i64 0), (.int .i64 0), (.str []), (.str []), (.str []), (.int .i64 0), (.int .i64 0), (.str []), .nilslice, (.bool false), (.str []), (.int .i64 0), (.int .u64 0), (.int .u64 0), (.int .i64 0), .nilslice, (.int .i64 0), (.int .i64 0)] [0]), [.tmp 32], none⟩,
    ⟨(some 4), .p .move, [.tmp 33], none⟩], [], none⟩])
  .ret)))), [.tmp 4]⟩
theorem c30 : cFunc Go.Proofs.Try.prog false 2 Go.Proofs.Try.f30 = some sf30 := by kernel_rfl

/-- rosary/rosarybook.copyLetters -/
def sf31 : SFunc := ⟨1, 35, (.seq (.reg [⟨(some 2), .p .move, [.lit .nilslice], none⟩])
  (.seq (.reg [⟨(some 4), .p .move, [.tmp 0], none⟩,
    ⟨(some 5), .h (.append 21 false), [.lit .nilslice, .tmp 4], none⟩,
    ⟨(some 0), .p .move, [.tmp 5], none⟩])
  (.seq (.seq (.reg [⟨(some 3), .p .move, [.lit (.int .i64 0)], none⟩])
  (.block 0 (.loop [0, 3] (.seq (.seq (.reg [⟨(some 6), .p .move, [.tmp 3], none⟩,
    ⟨(some 7), .p .move, [.tmp 0], none⟩,
    ⟨(some 8), .p .lenSl, [.tmp 7], none⟩,
    ⟨(some 9), .p (.bin .lss), [.tmp 6, .tmp 8], none⟩])
  (.cond (.tmp 9) .skip
  (.exit 0)))
  (.seq (.block 1 (.dreg [⟨[⟨(some 12), .p .move, [.tmp 0], none⟩,
    ⟨(some 13), .p .move, [.tmp 3], none⟩,
    ⟨(some 14), .p .move, [.tmp 0], none⟩,
    ⟨(some 15), .p .move, [.tmp 3], none⟩,
    ⟨(some 16), .p .move, [.tmp 0], none⟩,
    ⟨(some 17), .p .move, [.tmp 3], none⟩,
    ⟨(some 18), .p (.indexAddr 21), [.tmp 16, .tmp 17], none⟩,
    ⟨(some 19), .p (.fieldAddr 18), [.tmp 18], none⟩,
    ⟨(some 20), .r (.load none), [.tmp 19], none⟩,
    ⟨(some 22), .p .move, [.tmp 0], none⟩,
    ⟨(some 23), .p .move, [.tmp 3], none⟩,
    ⟨(some 24), .p (.indexAddr 21), [.tmp 22, .tmp 23], none⟩,
    ⟨(some 25), .p (.fieldAddr 9), [.tmp 24], none⟩,
    ⟨(some 26), .p (.fieldAddr 2), [.tmp 25], none⟩,
    ⟨(some 27), .r (.load none), [.tmp 26], none⟩], [], some ⟨(some 21), .h (.call 36), [.tmp 20], none⟩⟩,
   ⟨[], [⟨(some 27), .r (.load none), [.tmp 26], none⟩], some ⟨(some 28), .h (.call 36), [.tmp 27], none⟩⟩,
   ⟨[⟨(some 29), .p (.indexAddr 21), [.tmp 12, .tmp 13], none⟩,
    ⟨(some 30), .p (.fieldAddr 18), [.tmp 29], none⟩], [], some ⟨none, .h (.store 1), [.tmp 30, .tmp 21], none⟩⟩,
   ⟨[⟨(some 31), .p (.indexAddr 21), [.tmp 14, .tmp 15], none⟩,
    ⟨(some 32), .p (.fieldAddr 9), [.tmp 31], none⟩,
    ⟨(some 33), .p (.fieldAddr 2), [.tmp 32], none⟩], [], some ⟨none, .h (.store 1), [.tmp 33, .tmp 28], none⟩⟩,
   ⟨[], [], none⟩]))
  (.reg [⟨(some 10), .p .move, [.tmp 3], none⟩,
    ⟨(some 11), .p (.bin .add), [.tmp 10, .lit (.int .i64 1)], none⟩,
    ⟨(some 3), .p .move, [.tmp 11], none⟩]))))))
  (.seq (.reg [⟨(some 34), .p .move, [.tmp 0], none⟩,
    ⟨(some 2), .p .move, [.tmp 34], none⟩])
  .ret)))), [.tmp 2]⟩
theorem c31 : cFunc Go.Proofs.Try.prog false 1 Go.Proofs.Try.f31 = some sf31 := by kernel_rfl

/-- rosary/rosarybook.SameLetter -/
def sf32 : SFunc := ⟨2, 80, (.seq (.reg [⟨(some 2), .a .box, [.tmp 0], none⟩,
    ⟨(some 3), .a .box, [.tmp 1], none⟩,
    ⟨(some 4), .p .move, [.lit (.bool false)], none⟩])
  (.seq (.reg [⟨(some 5), .p (.fieldAddr 0), [.tmp 2], none⟩,
    ⟨(some 6), .r (.load none), [.tmp 5], none⟩,
    ⟨(some 7), .p (.fieldAddr 0), [.tmp 3], none⟩,
    ⟨(some 8), .r (.load none), [.tmp 7], none⟩,
    ⟨(some 9), .p (.bin .eql), [.tmp 6, .tmp 8], none⟩,
    ⟨(some 10), .p .move, [.tmp 9], none⟩,
    ⟨(some 11), .p (.fieldAddr 1), [.tmp 2], some (10, true)⟩,
    ⟨(some 12), .r (.load none), [.tmp 11], some (10, true)⟩,
    ⟨(some 13), .p (.fieldAddr 1), [.tmp 3], some (10, true)⟩,
    ⟨(some 14), .r (.load none), [.tmp 13], some (10, true)⟩,
    ⟨(some 15), .p (.bin .eql), [.tmp 12, .tmp 14], some (10, true)⟩,
    ⟨(some 16), .p .pick, [.tmp 10, .tmp 15, .lit (.bool false)], none⟩,
    ⟨(some 17), .p .move, [.tmp 16], none⟩,
    ⟨(some 18), .p (.fieldAddr 2), [.tmp 2], some (17, true)⟩,
    ⟨(some 19), .r (.load none), [.tmp 18], some (17, true)⟩,
    ⟨(some 20), .p (.fieldAddr 2), [.tmp 3], some (17, true)⟩,
    ⟨(some 21), .r (.load none), [.tmp 20], some (17, true)⟩,
    ⟨(some 22), .p (.bin .eql), [.tmp 19, .tmp 21], some (17, true)⟩,
    ⟨(some 23), .p .pick, [.tmp 17, .tmp 22, .lit (.bool false)], none⟩,
    ⟨(some 24), .p .move, [.tmp 23], none⟩,
    ⟨(some 25), .p (.fieldAddr 3), [.tmp 2], some (24, true)⟩,
    ⟨(some 26), .r (.load none), [.tmp 25], some (24, true)⟩,
    ⟨(some 27), .p (.fieldAddr 3), [.tmp 3], some (24, true)⟩,
    ⟨(some 28), .r (.load none), [.tmp 27], some (24, true)⟩,
    ⟨(some 29), .p (.bin .eql), [.tmp 26, .tmp 28], some (24, true)⟩,
    ⟨(some 30), .p .pick, [.tmp 24, .tmp 29, .lit (.bool false)], none⟩,
    ⟨(some 31), .p .move, [.tmp 30], none⟩,
    ⟨(some 32), .p (.fieldAddr 4), [.tmp 2], some (31, true)⟩,
    ⟨(some 33), .r (.load (some 5)), [.tmp 32], some (31, true)⟩,
    ⟨(some 34), .p (.fieldAddr 4), [.tmp 3], some (31, true)⟩,
    ⟨(some 35), .r (.load (some 5)), [.tmp 34], some (31, true)⟩,
    ⟨(some 36), .p (.eq false (.agg [.int, .str, .str, .str, .int])), [.tmp 33, .tmp 35], some (31, true)⟩,
    ⟨(some 37), .p .pick, [.tmp 31, .tmp 36, .lit (.bool false)], none⟩,
    ⟨(some 38), .p .move, [.tmp 37], none⟩,
    ⟨(some 39), .p (.fieldAddr 9), [.tmp 2], some (38, true)⟩,
    ⟨(some 40), .r (.load (some 6)), [.tmp 39], some (38, true)⟩,
    ⟨(some 41), .p (.fieldAddr 9), [.tmp 3], some (38, true)⟩,
    ⟨(some 42), .r (.load (some 6)), [.tmp 41], some (38, true)⟩,
    ⟨(some 43), .h (.call 23), [.tmp 40, .tmp 42], some (38, true)⟩,
    ⟨(some 44), .p .pick, [.tmp 38, .tmp 43, .lit (.bool false)], none⟩,
    ⟨(some 45), .p .move, [.tmp 44], none⟩,
    ⟨(some 46), .p (.fieldAddr 15), [.tmp 2], some (45, true)⟩,
    ⟨(some 47), .r (.load (some 2)), [.tmp 46], some (45, true)⟩,
    ⟨(some 48), .p (.fieldAddr 15), [.tmp 3], some (45, true)⟩,
    ⟨(some 49), .r (.load (some 2)), [.tmp 48], some (45, true)⟩,
    ⟨(some 50), .p (.eq false (.agg [.int, .int])), [.tmp 47, .tmp 49], some (45, true)⟩,
    ⟨(some 51), .p .pick, [.tmp 45, .tmp 50, .lit (.bool false)], none⟩,
    ⟨(some 52), .p .move, [.tmp 51], none⟩,
    ⟨(some 53), .p (.fieldAddr 17), [.tmp 2], some (52, true)⟩,
    ⟨(some 54), .r (.load none), [.tmp 53], some (52, true)⟩,
    ⟨(some 55), .p (.fieldAddr 17), [.tmp 3], some (52, true)⟩,
    ⟨(some 56), .r (.load none), [.tmp 55], some (52, true)⟩,
    ⟨(some 57), .p (.bin .eql), [.tmp 54, .tmp 56], some (52, true)⟩,
    ⟨(some 58), .p .pick, [.tmp 52, .tmp 57, .lit (.bool false)], none⟩,
    ⟨(some 59), .p .move, [.tmp 58], none⟩,
    ⟨(some 60), .p (.fieldAddr 18), [.tmp 2], some (59, true)⟩,
    ⟨(some 61), .r (.load none), [.tmp 60], some (59, true)⟩,
    ⟨(some 62), .p (.fieldAddr 18), [.tmp 3], some (59, true)⟩,
    ⟨(some 63), .r (.load none), [.tmp 62], some (59, true)⟩,
    ⟨(some 64), .h (.call 37), [.tmp 61, .tmp 63], some (59, true)⟩,
    ⟨(some 65), .p .pick, [.tmp 59, .tmp 64, .lit (.bool false)], none⟩,
    ⟨(some 66), .p .move, [.tmp 65], none⟩,
    ⟨(some 67), .p (.fieldAddr 19), [.tmp 2], some (66, true)⟩,
    ⟨(some 68), .r (.load none), [.tmp 67], some (66, true)⟩,
    ⟨(some 69), .p (.fieldAddr 19), [.tmp 3], some (66, true)⟩,
    ⟨(some 70), .r (.load none), [.tmp 69], some (66, true)⟩,
    ⟨(some 71), .p (.bin .eql), [.tmp 68, .tmp 70], some (66, true)⟩,
    ⟨(some 72), .p .pick, [.tmp 66, .tmp 71, .lit (.bool false)], none⟩,
    ⟨(some 73), .p .move, [.tmp 72], none⟩,
    ⟨(some 74), .p (.fieldAddr 20), [.tmp 2], some (73, true)⟩,
    ⟨(some 75), .r (.load none), [.tmp 74], some (73, true)⟩,
    ⟨(some 76), .p (.fieldAddr 20), [.tmp 3], some (73, true)⟩,
    ⟨(some 77), .r (.load none), [.tmp 76], some (73, true)⟩,
    ⟨(some 78), .p (.bin .eql), [.tmp 75, .tmp 77], some (73, true)⟩,
    ⟨(some 79), .p .pick, [.tmp 73, .tmp 78, .lit (.bool false)], none⟩,
    ⟨(some 4), .p .move, [.tmp 79], none⟩])
  .ret)), [.tmp 4]⟩
theorem c32 : cFunc Go.Proofs.Try.prog false 2 Go.Proofs.Try.f32 = some sf32 := by kernel_rfl

/-- (*rosary/rosaryref19.Guest).end -/
def sf33 : SFunc := ⟨2, 16, (.seq (.reg [⟨(some 3), .a .box, [.tmp 1], none⟩,
    ⟨(some 4), .p .move, [.lit .nilslice], none⟩,
    ⟨(some 5), .p .move, [.lit (.bool false)], none⟩])
  (.seq (.dreg [⟨[⟨(some 6), .p .move, [.tmp 0], none⟩,
    ⟨(some 7), .p .move, [.tmp 0], none⟩,
    ⟨(some 8), .p .move, [.tmp 0], none⟩,
    ⟨(some 9), .r (.load (some 6)), [.tmp 3], none⟩,
    ⟨(some 10), .p .nilCheck, [.tmp 6], none⟩,
    ⟨(some 11), .p (.fieldAddr 4), [.tmp 10], none⟩], [], some ⟨none, .h (.store 1), [.tmp 11, .lit (.bool false)], none⟩⟩,
   ⟨[⟨(some 12), .p .nilCheck, [.tmp 7], none⟩,
    ⟨(some 13), .p (.fieldAddr 5), [.tmp 12], none⟩], [⟨(some 9), .r (.load (some 6)), [.tmp 3], none⟩], some ⟨none, .h (.store 1), [.tmp 13, .lit (.bool true)], none⟩⟩,
   ⟨[⟨(some 14), .p .nilCheck, [.tmp 8], none⟩,
    ⟨(some 15), .p (.fieldAddr 14), [.tmp 14], none⟩], [⟨(some 9), .r (.load (some 6)), [.tmp 3], none⟩], some ⟨none, .h (.store 6), [.tmp 15, .tmp 9], none⟩⟩,
   ⟨[], [], none⟩])
  (.seq (.reg [⟨(some 4), .p .move, [.lit .nilslice], none⟩,
    ⟨(some 5), .p .move, [.lit (.bool true)], none⟩])
  .ret))), [.tmp 4, .tmp 5]⟩
theorem c33 : cFunc Go.Proofs.Try.prog false 2 Go.Proofs.Try.f33 = some sf33 := by kernel_rfl

/-- (*rosary/rosaryref19.Guest).Mine -/
def sf34 : SFunc := ⟨2, 39, (.seq (.reg [⟨(some 3), .a .box, [.tmp 1], none⟩,
    ⟨(some 4), .p .move, [.lit (.bool false)], none⟩])
  (.seq (.dreg [⟨[⟨(some 5), .p .move, [.tmp 0], none⟩,
    ⟨(some 6), .p .nilCheck, [.tmp 5], none⟩,
    ⟨(some 7), .p (.fieldAddr 4), [.tmp 6], none⟩,
    ⟨(some 8), .r (.load none), [.tmp 7], none⟩,
    ⟨(some 9), .p .move, [.tmp 8], none⟩,
    ⟨(some 10), .p .move, [.tmp 0], some (9, true)⟩,
    ⟨(some 11), .p .nilCheck, [.tmp 10], some (9, true)⟩,
    ⟨(some 12), .p (.fieldAddr 8), [.tmp 11], some (9, true)⟩,
    ⟨(some 13), .r (.load none), [.tmp 12], some (9, true)⟩,
    ⟨(some 14), .p (.bin .eql), [.tmp 13, .lit (.int .i64 0)], some (9, true)⟩,
    ⟨(some 15), .p .pick, [.tmp 9, .tmp 14, .lit (.bool false)], none⟩,
    ⟨(some 16), .p .move, [.tmp 15], none⟩,
    ⟨(some 17), .p (.fieldAddr 0), [.tmp 3], some (16, true)⟩,
    ⟨(some 18), .r (.load none), [.tmp 17], some (16, true)⟩,
    ⟨(some 19), .p (.bin .eql), [.tmp 18, .lit (.int .i64 2)], some (16, true)⟩,
    ⟨(some 20), .p .pick, [.tmp 16, .tmp 19, .lit (.bool false)], none⟩,
    ⟨(some 21), .p .move, [.tmp 20], none⟩,
    ⟨(some 22), .p (.fieldAddr 3), [.tmp 3], some (21, true)⟩,
    ⟨(some 23), .r (.load none), [.tmp 22], some (21, true)⟩,
    ⟨(some 24), .p .move, [.tmp 0], some (21, true)⟩,
    ⟨(some 25), .p .nilCheck, [.tmp 24], some (21, true)⟩,
    ⟨(some 26), .p (.fieldAddr 2), [.tmp 25], some (21, true)⟩,
    ⟨(some 27), .r (.load none), [.tmp 26], some (21, true)⟩,
    ⟨(some 28), .p (.bin .eql), [.tmp 23, .tmp 27], some (21, true)⟩,
    ⟨(some 29), .p .pick, [.tmp 21, .tmp 28, .lit (.bool false)], none⟩,
    ⟨(some 30), .p .move, [.tmp 29], none⟩,
    ⟨(some 31), .p (.fieldAddr 1), [.tmp 3], some (30, true)⟩,
    ⟨(some 32), .r (.load none), [.tmp 31], some (30, true)⟩,
    ⟨(some 33), .p .move, [.tmp 0], some (30, true)⟩,
    ⟨(some 34), .p .nilCheck, [.tmp 33], some (30, true)⟩,
    ⟨(some 35), .p (.fieldAddr 6), [.tmp 34], some (30, true)⟩,
    ⟨(some 36), .r (.load none), [.tmp 35], some (30, true)⟩,
    ⟨(some 37), .p (.bin .eql), [.tmp 32, .tmp 36], some (30, true)⟩,
    ⟨(some 38), .p .pick, [.tmp 30, .tmp 37, .lit (.bool false)], none⟩,
    ⟨(some 4), .p .move, [.tmp 38], none⟩], [], none⟩])
  .ret)), [.tmp 4]⟩
theorem c34 : cFunc Go.Proofs.Try.prog false 2 Go.Proofs.Try.f34 = some sf34 := by kernel_rfl

/-- (*rosary/rosaryref19.Guest).Again -/
def sf35 : SFunc := ⟨2, 63, (.seq (.reg [⟨(some 3), .a .box, [.tmp 1], none⟩,
    ⟨(some 4), .p .move, [.lit .nilslice], none⟩,
    ⟨(some 5), .p .move, [.lit (.bool false)], none⟩])
  (.seq (.seq (.reg [⟨(some 7), .p .move, [.tmp 0], none⟩,
    ⟨(some 8), .p .nilCheck, [.tmp 7], none⟩,
    ⟨(some 9), .p (.fieldAddr 3), [.tmp 8], none⟩,
    ⟨(some 10), .r (.load none), [.tmp 9], none⟩,
    ⟨(some 11), .p (.bin .geq), [.tmp 10, .lit (.int .i64 8)], none⟩])
  (.cond (.tmp 11) (.seq (.reg [⟨(some 12), .p .move, [.tmp 0], none⟩,
    ⟨(some 13), .p (.build [(.int .i64 0), (.str []), .nilslice, (.bool false), (.str []), (.int .i64 0)] [(0, 1)]), [.lit (.int .i64 9)], none⟩,
    ⟨(some 14), .h (.call 33), [.tmp 12, .tmp 13], none⟩,
    ⟨(some 15), .p (.extract 0), [.tmp 14], none⟩,
    ⟨(some 16), .p (.extract 1), [.tmp 14], none⟩,
    ⟨(some 4), .p .move, [.tmp 15], none⟩,
    ⟨(some 5), .p .move, [.tmp 16], none⟩])
  .ret)
  .skip))
  (.seq (.reg [⟨(some 17), .p .move, [.tmp 0], none⟩,
    ⟨(some 18), .p .nilCheck, [.tmp 17], none⟩,
    ⟨(some 19), .p (.fieldAddr 3), [.tmp 18], none⟩,
    ⟨(some 20), .r (.load none), [.tmp 19], none⟩,
    ⟨(some 21), .p (.bin .add), [.tmp 20, .lit (.int .i64 1)], none⟩,
    ⟨(some 22), .p .nilCheck, [.tmp 17], none⟩,
    ⟨(some 23), .p (.fieldAddr 3), [.tmp 22], none⟩,
    ⟨none, .h (.store 1), [.tmp 23, .tmp 21], none⟩])
  (.seq (.seq (.reg [⟨(some 24), .p (.fieldAddr 0), [.tmp 3], none⟩,
    ⟨(some 25), .r (.load none), [.tmp 24], none⟩,
    ⟨(some 26), .p (.bin .eql), [.tmp 25, .lit (.int .i64 7)], none⟩])
  (.cond (.tmp 26) (.seq (.reg [⟨(some 27), .p .move, [.tmp 0], none⟩,
    ⟨(some 28), .p .nilCheck, [.tmp 27], none⟩,
    ⟨(some 29), .p (.fieldAddr 8), [.tmp 28], none⟩,
    ⟨none, .h (.store 1), [.tmp 29, .lit (.int .i64 2)], none⟩])
  (.seq (.reg [⟨(some 4), .p .move, [.lit .nilslice], none⟩,
    ⟨(some 5), .p .move, [.lit (.bool false)], none⟩])
  .ret))
  .skip))
  (.seq (.reg [⟨(some 30), .p (.fieldAddr 5), [.tmp 3], none⟩,
    ⟨(some 31), .r (.load none), [.tmp 30], none⟩,
    ⟨(some 6), .p .move, [.tmp 31], none⟩])
  (.seq (.seq (.reg [⟨(some 32), .p .move, [.tmp 6], none⟩,
    ⟨(some 33), .p (.bin .lss), [.tmp 32, .lit (.int .i64 0)], none⟩,
    ⟨(some 34), .p .move, [.tmp 33], none⟩,
    ⟨(some 35), .p .move, [.tmp 6], some (34, false)⟩,
    ⟨(some 36), .p .move, [.tmp 0], some (34, false)⟩,
    ⟨(some 37), .p .nilCheck, [.tmp 36], some (34, false)⟩,
    ⟨(some 38), .p (.fieldAddr 1), [.tmp 37], some (34, false)⟩,
    ⟨(some 39), .r (.load none), [.tmp 38], some (34, false)⟩,
    ⟨(some 40), .p (.bin .geq), [.tmp 35, .tmp 39], some (34, false)⟩,
    ⟨(some 41), .p .pick, [.tmp 34, .lit (.bool true), .tmp 40], none⟩,
    ⟨(some 42), .p .move, [.tmp 41], none⟩,
    ⟨(some 43), .p .move, [.tmp 6], some (42, false)⟩,
    ⟨(some 44), .p .move, [.tmp 0], some (42, false)⟩,
    ⟨(some 45), .p .nilCheck, [.tmp 44], some (42, false)⟩,
    ⟨(some 46), .p (.fieldAddr 6), [.tmp 45], some (42, false)⟩,
    ⟨(some 47), .r (.load none), [.tmp 46], some (42, false)⟩,
    ⟨(some 48), .p (.bin .eql), [.tmp 43, .tmp 47], some (42, false)⟩,
    ⟨(some 49), .p .pick, [.tmp 42, .lit (.bool true), .tmp 48], none⟩])
  (.cond (.tmp 49) (.dreg [⟨[⟨(some 50), .p .move, [.tmp 0], none⟩,
    ⟨(some 51), .p .nilCheck, [.tmp 50], none⟩,
    ⟨(some 52), .p (.fieldAddr 6), [.tmp 51], none⟩,
    ⟨(some 53), .r (.load none), [.tmp 52], none⟩,
    ⟨(some 54), .p (.bin .add), [.tmp 53, .lit (.int .i64 1)], none⟩,
    ⟨(some 55), .p .move, [.tmp 0], none⟩,
    ⟨(some 56), .p .nilCheck, [.tmp 55], none⟩,
    ⟨(some 57), .p (.fieldAddr 1), [.tmp 56], none⟩,
    ⟨(some 58), .r (.load none), [.tmp 57], none⟩,
    ⟨(some 59), .p (.bin .rem), [.tmp 54, .tmp 58], none⟩,
    ⟨(some 6), .p .move, [.tmp 59], none⟩], [], none⟩])
  .skip))
  (.seq (.reg [⟨(some 60), .p .move, [.tmp 0], none⟩,
    ⟨(some 61), .p .move, [.tmp 6], none⟩,
    ⟨(some 62), .h (.call 30), [.tmp 60, .tmp 61], none⟩,
    ⟨(some 4), .p .move, [.tmp 62], none⟩,
    ⟨(some 5), .p .move, [.lit (.bool false)], none⟩])
  .ret))))))), [.tmp 4, .tmp 5]⟩
theorem c35 : cFunc Go.Proofs.Try.prog false 2 Go.Proofs.Try.f35 = some sf35 := by kernel_rfl

/-- rosary/rosarybook.copyItems -/
def sf36 : SFunc := ⟨1, 5, (.seq (.reg [⟨(some 2), .p .move, [.lit .nilslice], none⟩])
  (.seq (.reg [⟨(some 3), .p .move, [.tmp 0], none⟩,
    ⟨(some 4), .h (.append 2 false), [.lit .nilslice, .tmp 3], none⟩,
    ⟨(some 2), .p .move, [.tmp 4], none⟩])
  .ret)), [.tmp 2]⟩
theorem c36 : cFunc Go.Proofs.Try.prog false 1 Go.Proofs.Try.f36 = some sf36 := by kernel_rfl

/-- rosary/rosarybook.SameItems -/
def sf37 : SFunc := ⟨2, 27, (.seq (.reg [⟨(some 4), .p .move, [.lit (.bool false)], none⟩])
  (.seq (.seq (.reg [⟨(some 6), .p .move, [.tmp 0], none⟩,
    ⟨(some 7), .p .lenSl, [.tmp 6], none⟩,
    ⟨(some 8), .p .move, [.tmp 1], none⟩,
    ⟨(some 9), .p .lenSl, [.tmp 8], none⟩,
    ⟨(some 10), .p (.bin .neq), [.tmp 7, .tmp 9], none⟩])
  (.cond (.tmp 10) (.seq (.reg [⟨(some 4), .p .move, [.lit (.bool false)], none⟩])
  .ret)
  .skip))
  (.seq (.seq (.reg [⟨(some 5), .p .move, [.lit (.int .i64 0)], none⟩])
  (.block 0 (.loop [0, 1, 5] (.seq (.seq (.reg [⟨(some 11), .p .move, [.tmp 5], none⟩,
    ⟨(some 12), .p .move, [.tmp 0], none⟩,
    ⟨(some 13), .p .lenSl, [.tmp 12], none⟩,
    ⟨(some 14), .p (.bin .lss), [.tmp 11, .tmp 13], none⟩])
  (.cond (.tmp 14) .skip
  (.exit 0)))
  (.seq (.block 1 (.seq (.dreg [⟨[⟨(some 17), .p .move, [.tmp 0], none⟩,
    ⟨(some 18), .p .move, [.tmp 5], none⟩,
    ⟨(some 19), .p (.indexAddr 2), [.tmp 17, .tmp 18], none⟩,
    ⟨(some 20), .r (.load (some 2)), [.tmp 19], none⟩,
    ⟨(some 21), .p .move, [.tmp 1], none⟩,
    ⟨(some 22), .p .move, [.tmp 5], none⟩,
    ⟨(some 23), .p (.indexAddr 2), [.tmp 21, .tmp 22], none⟩,
    ⟨(some 24), .r (.load (some 2)), [.tmp 23], none⟩,
    ⟨(some 25), .p (.eq false (.agg [.str, .str])), [.tmp 20, .tmp 24], none⟩,
    ⟨(some 26), .p .not, [.tmp 25], none⟩], [], none⟩])
  (.cond (.tmp 26) (.seq (.reg [⟨(some 4), .p .move, [.lit (.bool false)], none⟩])
  .ret)
  .skip)))
  (.reg [⟨(some 15), .p .move, [.tmp 5], none⟩,
    ⟨(some 16), .p (.bin .add), [.tmp 15, .lit (.int .i64 1)], none⟩,
    ⟨(some 5), .p .move, [.tmp 16], none⟩]))))))
  (.seq (.reg [⟨(some 4), .p .move, [.lit (.bool true)], none⟩])
  .ret)))), [.tmp 4]⟩
theorem c37 : cFunc Go.Proofs.Try.prog false 2 Go.Proofs.Try.f37 = some sf37 := by kernel_rfl

/-- (*rosary/rosarybook.Book).stillTexts -/
def sf38 : SFunc := ⟨1, 29, (.seq (.reg [⟨(some 2), .p .move, [.lit (.bool false)], none⟩])
  (.seq (.seq (.reg [⟨(some 3), .p .move, [.lit (.int .i64 0)], none⟩])
  (.block 0 (.loop [0, 3] (.seq (.seq (.reg [⟨(some 4), .p .move, [.tmp 3], none⟩,
    ⟨(some 5), .p .move, [.tmp 0], none⟩,
    ⟨(some 6), .p .nilCheck, [.tmp 5], none⟩,
    ⟨(some 7), .p (.fieldAddr 0), [.tmp 6], none⟩,
    ⟨(some 8), .r (.load none), [.tmp 7], none⟩,
    ⟨(some 9), .p .lenSl, [.tmp 8], none⟩,
    ⟨(some 10), .p (.bin .lss), [.tmp 4, .tmp 9], none⟩])
  (.cond (.tmp 10) .skip
  (.exit 0)))
  (.seq (.block 1 (.seq (.dreg [⟨[⟨(some 13), .p .move, [.tmp 0], none⟩,
    ⟨(some 14), .p .nilCheck, [.tmp 13], none⟩,
    ⟨(some 15), .p (.fieldAddr 0), [.tmp 14], none⟩,
    ⟨(some 16), .r (.load none), [.tmp 15], none⟩,
    ⟨(some 17), .p .move, [.tmp 3], none⟩,
    ⟨(some 18), .p (.indexAddr 1), [.tmp 16, .tmp 17], none⟩,
    ⟨(some 19), .r (.load none), [.tmp 18], none⟩,
    ⟨(some 20), .p .move, [.tmp 0], none⟩,
    ⟨(some 21), .p .nilCheck, [.tmp 20], none⟩,
    ⟨(some 22), .p (.fieldAddr 1), [.tmp 21], none⟩,
    ⟨(some 23), .r (.load none), [.tmp 22], none⟩,
    ⟨(some 24), .p .move, [.tmp 3], none⟩,
    ⟨(some 25), .p (.indexAddr 1), [.tmp 23, .tmp 24], none⟩,
    ⟨(some 26), .r (.load none), [.tmp 25], none⟩], [], some ⟨(some 27), .h (.call 66), [.tmp 19, .tmp 26], none⟩⟩,
   ⟨[⟨(some 28), .p .not, [.tmp 27], none⟩], [], none⟩])
  (.cond (.tmp 28) (.seq (.reg [⟨(some 2), .p .move, [.lit (.bool false)], none⟩])
  .ret)
  .skip)))
  (.reg [⟨(some 11), .p .move, [.tmp 3], none⟩,
    ⟨(some 12), .p (.bin .add), [.tmp 11, .lit (.int .i64 1)], none⟩,
    ⟨(some 3), .p .move, [.tmp 12], none⟩]))))))
  (.seq (.reg [⟨(some 2), .p .move, [.lit (.bool true)], none⟩])
  .ret))), [.tmp 2]⟩
theorem c38 : cFunc Go.Proofs.Try.prog false 1 Go.Proofs.Try.f38 = some sf38 := by kernel_rfl

/-- (*rosary/rosarybook.Book).stillInts -/
def sf39 : SFunc := ⟨1, 29, (.seq (.reg [⟨(some 2), .p .move, [.lit (.bool false)], none⟩])
  (.seq (.seq (.reg [⟨(some 3), .p .move, [.lit (.int .i64 0)], none⟩])
  (.block 0 (.loop [0, 3] (.seq (.seq (.reg [⟨(some 4), .p .move, [.tmp 3], none⟩,
    ⟨(some 5), .p .move, [.tmp 0], none⟩,
    ⟨(some 6), .p .nilCheck, [.tmp 5], none⟩,
    ⟨(some 7), .p (.fieldAddr 2), [.tmp 6], none⟩,
    ⟨(some 8), .r (.load none), [.tmp 7], none⟩,
    ⟨(some 9), .p .lenSl, [.tmp 8], none⟩,
    ⟨(some 10), .p (.bin .lss), [.tmp 4, .tmp 9], none⟩])
  (.cond (.tmp 10) .skip
  (.exit 0)))
  (.seq (.block 1 (.seq (.dreg [⟨[⟨(some 13), .p .move, [.tmp 0], none⟩,
    ⟨(some 14), .p .nilCheck, [.tmp 13], none⟩,
    ⟨(some 15), .p (.fieldAddr 2), [.tmp 14], none⟩,
    ⟨(some 16), .r (.load none), [.tmp 15], none⟩,
    ⟨(some 17), .p .move, [.tmp 3], none⟩,
    ⟨(some 18), .p (.indexAddr 1), [.tmp 16, .tmp 17], none⟩,
    ⟨(some 19), .r (.load none), [.tmp 18], none⟩,
    ⟨(some 20), .p .move, [.tmp 0], none⟩,
    ⟨(some 21), .p .nilCheck, [.tmp 20], none⟩,
    ⟨(some 22), .p (.fieldAddr 3), [.tmp 21], none⟩,
    ⟨(some 23), .r (.load none), [.tmp 22], none⟩,
    ⟨(some 24), .p .move, [.tmp 3], none⟩,
    ⟨(some 25), .p (.indexAddr 1), [.tmp 23, .tmp 24], none⟩,
    ⟨(some 26), .r (.load none), [.tmp 25], none⟩], [], some ⟨(some 27), .h (.call 67), [.tmp 19, .tmp 26], none⟩⟩,
   ⟨[⟨(some 28), .p .not, [.tmp 27], none⟩], [], none⟩])
  (.cond (.tmp 28) (.seq (.reg [⟨(some 2), .p .move, [.lit (.bool false)], none⟩])
  .ret)
  .skip)))
  (.reg [⟨(some 11), .p .move, [.tmp 3], none⟩,
    ⟨(some 12), .p (.bin .add), [.tmp 11, .lit (.int .i64 1)], none⟩,
    ⟨(some 3), .p .move, [.tmp 12], none⟩]))))))
  (.seq (.reg [⟨(some 2), .p .move, [.lit (.bool true)], none⟩])
  .ret))), [.tmp 2]⟩
theorem c39 : cFunc Go.Proofs.Try.prog false 1 Go.Proofs.Try.f39 = some sf39 := by kernel_rfl

/-- (*rosary/rosarybook.Book).stillPoints -/
def sf40 : SFunc := ⟨1, 29, (.seq (.reg [⟨(some 2), .p .move, [.lit (.bool false)], none⟩])
  (.seq (.seq (.reg [⟨(some 3), .p .move, [.lit (.int .i64 0)], none⟩])
  (.block 0 (.loop [0, 3] (.seq (.seq (.reg [⟨(some 4), .p .move, [.tmp 3], none⟩,
    ⟨(some 5), .p .move, [.tmp 0], none⟩,
    ⟨(some 6), .p .nilCheck, [.tmp 5], none⟩,
    ⟨(some 7), .p (.fieldAddr 4), [.tmp 6], none⟩,
    ⟨(some 8), .r (.load none), [.tmp 7], none⟩,
    ⟨(some 9), .p .lenSl, [.tmp 8], none⟩,
    ⟨(some 10), .p (.bin .lss), [.tmp 4, .tmp 9], none⟩])
  (.cond (.tmp 10) .skip
  (.exit 0)))
  (.seq (.block 1 (.seq (.dreg [⟨[⟨(some 13), .p .move, [.tmp 0], none⟩,
    ⟨(some 14), .p .nilCheck, [.tmp 13], none⟩,
    ⟨(some 15), .p (.fieldAddr 4), [.tmp 14], none⟩,
    ⟨(some 16), .r (.load none), [.tmp 15], none⟩,
    ⟨(some 17), .p .move, [.tmp 3], none⟩,
    ⟨(some 18), .p (.indexAddr 1), [.tmp 16, .tmp 17], none⟩,
    ⟨(some 19), .r (.load none), [.tmp 18], none⟩,
    ⟨(some 20), .p .move, [.tmp 0], none⟩,
    ⟨(some 21), .p .nilCheck, [.tmp 20], none⟩,
    ⟨(some 22), .p (.fieldAddr 5), [.tmp 21], none⟩,
    ⟨(some 23), .r (.load none), [.tmp 22], none⟩,
    ⟨(some 24), .p .move, [.tmp 3], none⟩,
    ⟨(some 25), .p (.indexAddr 1), [.tmp 23, .tmp 24], none⟩,
    ⟨(some 26), .r (.load none), [.tmp 25], none⟩], [], some ⟨(some 27), .h (.call 68), [.tmp 19, .tmp 26], none⟩⟩,
   ⟨[⟨(some 28), .p .not, [.tmp 27], none⟩], [], none⟩])
  (.cond (.tmp 28) (.seq (.reg [⟨(some 2), .p .move, [.lit (.bool false)], none⟩])
  .ret)
  .skip)))
  (.reg [⟨(some 11), .p .move, [.tmp 3], none⟩,
    ⟨(some 12), .p (.bin .add), [.tmp 11, .lit (.int .i64 1)], none⟩,
    ⟨(some 3), .p .move, [.tmp 12], none⟩]))))))
  (.seq (.reg [⟨(some 2), .p .move, [.lit (.bool true)], none⟩])
  .ret))), [.tmp 2]⟩
theorem c40 : cFunc Go.Proofs.Try.prog false 1 Go.Proofs.Try.f40 = some sf40 := by kernel_rfl

/-- (*rosary/rosarybook.Book).stillItems -/
def sf41 : SFunc := ⟨1, 29, (.seq (.reg [⟨(some 2), .p .move, [.lit (.bool false)], none⟩])
  (.seq (.seq (.reg [⟨(some 3), .p .move, [.lit (.int .i64 0)], none⟩])
  (.block 0 (.loop [0, 3] (.seq (.seq (.reg [⟨(some 4), .p .move, [.tmp 3], none⟩,
    ⟨(some 5), .p .move, [.tmp 0], none⟩,
    ⟨(some 6), .p .nilCheck, [.tmp 5], none⟩,
    ⟨(some 7), .p (.fieldAddr 6), [.tmp 6], none⟩,
    ⟨(some 8), .r (.load none), [.tmp 7], none⟩,
    ⟨(some 9), .p .lenSl, [.tmp 8], none⟩,
    ⟨(some 10), .p (.bin .lss), [.tmp 4, .tmp 9], none⟩])
  (.cond (.tmp 10) .skip
  (.exit 0)))
  (.seq (.block 1 (.seq (.dreg [⟨[⟨(some 13), .p .move, [.tmp 0], none⟩,
    ⟨(some 14), .p .nilCheck, [.tmp 13], none⟩,
    ⟨(some 15), .p (.fieldAddr 6), [.tmp 14], none⟩,
    ⟨(some 16), .r (.load none), [.tmp 15], none⟩,
    ⟨(some 17), .p .move, [.tmp 3], none⟩,
    ⟨(some 18), .p (.indexAddr 1), [.tmp 16, .tmp 17], none⟩,
    ⟨(some 19), .r (.load none), [.tmp 18], none⟩,
    ⟨(some 20), .p .move, [.tmp 0], none⟩,
    ⟨(some 21), .p .nilCheck, [.tmp 20], none⟩,
    ⟨(some 22), .p (.fieldAddr 7), [.tmp 21], none⟩,
    ⟨(some 23), .r (.load none), [.tmp 22], none⟩,
    ⟨(some 24), .p .move, [.tmp 3], none⟩,
    ⟨(some 25), .p (.indexAddr 1), [.tmp 23, .tmp 24], none⟩,
    ⟨(some 26), .r (.load none), [.tmp 25], none⟩], [], some ⟨(some 27), .h (.call 37), [.tmp 19, .tmp 26], none⟩⟩,
   ⟨[⟨(some 28), .p .not, [.tmp 27], none⟩], [], none⟩])
  (.cond (.tmp 28) (.seq (.reg [⟨(some 2), .p .move, [.lit (.bool false)], none⟩])
  .ret)
  .skip)))
  (.reg [⟨(some 11), .p .move, [.tmp 3], none⟩,
    ⟨(some 12), .p (.bin .add), [.tmp 11, .lit (.int .i64 1)], none⟩,
    ⟨(some 3), .p .move, [.tmp 12], none⟩]))))))
  (.seq (.reg [⟨(some 2), .p .move, [.lit (.bool true)], none⟩])
  .ret))), [.tmp 2]⟩
theorem c41 : cFunc Go.Proofs.Try.prog false 1 Go.Proofs.Try.f41 = some sf41 := by kernel_rfl

/-- (*rosary/rosarybook.Book).stillOwneds -/
def sf42 : SFunc := ⟨1, 29, (.seq (.reg [⟨(some 2), .p .move, [.lit (.bool false)], none⟩])
  (.seq (.seq (.reg [⟨(some 3), .p .move, [.lit (.int .i64 0)], none⟩])
  (.block 0 (.loop [0, 3] (.seq (.seq (.reg [⟨(some 4), .p .move, [.tmp 3], none⟩,
    ⟨(some 5), .p .move, [.tmp 0], none⟩,
    ⟨(some 6), .p .nilCheck, [.tmp 5], none⟩,
    ⟨(some 7), .p (.fieldAddr 8), [.tmp 6], none⟩,
    ⟨(some 8), .r (.load none), [.tmp 7], none⟩,
    ⟨(some 9), .p .lenSl, [.tmp 8], none⟩,
    ⟨(some 10), .p (.bin .lss), [.tmp 4, .tmp 9], none⟩])
  (.cond (.tmp 10) .skip
  (.exit 0)))
  (.seq (.block 1 (.seq (.dreg [⟨[⟨(some 13), .p .move, [.tmp 0], none⟩,
    ⟨(some 14), .p .nilCheck, [.tmp 13], none⟩,
    ⟨(some 15), .p (.fieldAddr 8), [.tmp 14], none⟩,
    ⟨(some 16), .r (.load none), [.tmp 15], none⟩,
    ⟨(some 17), .p .move, [.tmp 3], none⟩,
    ⟨(some 18), .p (.indexAddr 1), [.tmp 16, .tmp 17], none⟩,
    ⟨(some 19), .r (.load none), [.tmp 18], none⟩,
    ⟨(some 20), .p .move, [.tmp 0], none⟩,
    ⟨(some 21), .p .nilCheck, [.tmp 20], none⟩,
    ⟨(some 22), .p (.fieldAddr 9), [.tmp 21], none⟩,
    ⟨(some 23), .r (.load none), [.tmp 22], none⟩,
    ⟨(some 24), .p .move, [.tmp 3], none⟩,
    ⟨(some 25), .p (.indexAddr 1), [.tmp 23, .tmp 24], none⟩,
    ⟨(some 26), .r (.load none), [.tmp 25], none⟩], [], some ⟨(some 27), .h (.call 69), [.tmp 19, .tmp 26], none⟩⟩,
   ⟨[⟨(some 28), .p .not, [.tmp 27], none⟩], [], none⟩])
  (.cond (.tmp 28) (.seq (.reg [⟨(some 2), .p .move, [.lit (.bool false)], none⟩])
  .ret)
  .skip)))
  (.reg [⟨(some 11), .p .move, [.tmp 3], none⟩,
    ⟨(some 12), .p (.bin .add), [.tmp 11, .lit (.int .i64 1)], none⟩,
    ⟨(some 3), .p .move, [.tmp 12], none⟩]))))))
  (.seq (.reg [⟨(some 2), .p .move, [.lit (.bool true)], none⟩])
  .ret))), [.tmp 2]⟩
theorem c42 : cFunc Go.Proofs.Try.prog false 1 Go.Proofs.Try.f42 = some sf42 := by kernel_rfl

/-- (*rosary/rosarybook.Book).stillEvents -/
def sf43 : SFunc := ⟨1, 29, (.seq (.reg [⟨(some 2), .p .move, [.lit (.bool false)], none⟩])
  (.seq (.seq (.reg [⟨(some 3), .p .move, [.lit (.int .i64 0)], none⟩])
  (.block 0 (.loop [0, 3] (.seq (.seq (.reg [⟨(some 4), .p .move, [.tmp 3], none⟩,
    ⟨(some 5), .p .move, [.tmp 0], none⟩,
    ⟨(some 6), .p .nilCheck, [.tmp 5], none⟩,
    ⟨(some 7), .p (.fieldAddr 10), [.tmp 6], none⟩,
    ⟨(some 8), .r (.load none), [.tmp 7], none⟩,
    ⟨(some 9), .p .lenSl, [.tmp 8], none⟩,
    ⟨(some 10), .p (.bin .lss), [.tmp 4, .tmp 9], none⟩])
  (.cond (.tmp 10) .skip
  (.exit 0)))
  (.seq (.block 1 (.seq (.dreg [⟨[⟨(some 13), .p .move, [.tmp 0], none⟩,
    ⟨(some 14), .p .nilCheck, [.tmp 13], none⟩,
    ⟨(some 15), .p (.fieldAddr 10), [.tmp 14], none⟩,
    ⟨(some 16), .r (.load none), [.tmp 15], none⟩,
    ⟨(some 17), .p .move, [.tmp 3], none⟩,
    ⟨(some 18), .p (.indexAddr 1), [.tmp 16, .tmp 17], none⟩,
    ⟨(some 19), .r (.load none), [.tmp 18], none⟩,
    ⟨(some 20), .p .move, [.tmp 0], none⟩,
    ⟨(some 21), .p .nilCheck, [.tmp 20], none⟩,
    ⟨(some 22), .p (.fieldAddr 11), [.tmp 21], none⟩,
    ⟨(some 23), .r (.load none), [.tmp 22], none⟩,
    ⟨(some 24), .p .move, [.tmp 3], none⟩,
    ⟨(some 25), .p (.indexAddr 1), [.tmp 23, .tmp 24], none⟩,
    ⟨(some 26), .r (.load none), [.tmp 25], none⟩], [], some ⟨(some 27), .h (.call 70), [.tmp 19, .tmp 26], none⟩⟩,
   ⟨[⟨(some 28), .p .not, [.tmp 27], none⟩], [], none⟩])
  (.cond (.tmp 28) (.seq (.reg [⟨(some 2), .p .move, [.lit (.bool false)], none⟩])
  .ret)
  .skip)))
  (.reg [⟨(some 11), .p .move, [.tmp 3], none⟩,
    ⟨(some 12), .p (.bin .add), [.tmp 11, .lit (.int .i64 1)], none⟩,
    ⟨(some 3), .p .move, [.tmp 12], none⟩]))))))
  (.seq (.reg [⟨(some 2), .p .move, [.lit (.bool true)], none⟩])
  .ret))), [.tmp 2]⟩
theorem c43 : cFunc Go.Proofs.Try.prog false 1 Go.Proofs.Try.f43 = some sf43 := by kernel_rfl

/-- (*rosary/rosarybook.Book).stillLetters -/
def sf44 : SFunc := ⟨1, 29, (.seq (.reg [⟨(some 2), .p .move, [.lit (.bool false)], none⟩])
  (.seq (.seq (.reg [⟨(some 3), .p .move, [.lit (.int .i64 0)], none⟩])
  (.block 0 (.loop [0, 3] (.seq (.seq (.reg [⟨(some 4), .p .move, [.tmp 3], none⟩,
    ⟨(some 5), .p .move, [.tmp 0], none⟩,
    ⟨(some 6), .p .nilCheck, [.tmp 5], none⟩,
    ⟨(some 7), .p (.fieldAddr 12), [.tmp 6], none⟩,
    ⟨(some 8), .r (.load none), [.tmp 7], none⟩,
    ⟨(some 9), .p .lenSl, [.tmp 8], none⟩,
    ⟨(some 10), .p (.bin .lss), [.tmp 4, .tmp 9], none⟩])
  (.cond (.tmp 10) .skip
  (.exit 0)))
  (.seq (.block 1 (.seq (.dreg [⟨[⟨(some 13), .p .move, [.tmp 0], none⟩,
    ⟨(some 14), .p .nilCheck, [.tmp 13], none⟩,
    ⟨(some 15), .p (.fieldAddr 12), [.tmp 14], none⟩,
    ⟨(some 16), .r (.load none), [.tmp 15], none⟩,
    ⟨(some 17), .p .move, [.tmp 3], none⟩,
    ⟨(some 18), .p (.indexAddr 1), [.tmp 16, .tmp 17], none⟩,
    ⟨(some 19), .r (.load none), [.tmp 18], none⟩,
    ⟨(some 20), .p .move, [.tmp 0], none⟩,
    ⟨(some 21), .p .nilCheck, [.tmp 20], none⟩,
    ⟨(some 22), .p (.fieldAddr 13), [.tmp 21], none⟩,
    ⟨(some 23), .r (.load none), [.tmp 22], none⟩,
    ⟨(some 24), .p .move, [.tmp 3], none⟩,
    ⟨(some 25), .p (.indexAddr 1), [.tmp 23, .tmp 24], none⟩,
    ⟨(some 26), .r (.load none), [.tmp 25], none⟩], [], some ⟨(some 27), .h (.call 19), [.tmp 19, .tmp 26], none⟩⟩,
   ⟨[⟨(some 28), .p .not, [.tmp 27], none⟩], [], none⟩])
  (.cond (.tmp 28) (.seq (.reg [⟨(some 2), .p .move, [.lit (.bool false)], none⟩])
  .ret)
  .skip)))
  (.reg [⟨(some 11), .p .move, [.tmp 3], none⟩,
    ⟨(some 12), .p (.bin .add), [.tmp 11, .lit (.int .i64 1)], none⟩,
    ⟨(some 3), .p .move, [.tmp 12], none⟩]))))))
  (.seq (.reg [⟨(some 2), .p .move, [.lit (.bool true)], none⟩])
  .ret))), [.tmp 2]⟩
theorem c44 : cFunc Go.Proofs.Try.prog false 1 Go.Proofs.Try.f44 = some sf44 := by kernel_rfl

/-- (*rosary/rosarybook.Book).putEvents -/
def sf45 : SFunc := ⟨1, 43, (.seq (.reg [⟨(some 2), .p .move, [.lit (.int .i64 0)], none⟩])
  (.block 0 (.loop [0, 2] (.seq (.seq (.reg [⟨(some 5), .p .move, [.tmp 2], none⟩,
    ⟨(some 6), .p .move, [.tmp 0], none⟩,
    ⟨(some 7), .p .nilCheck, [.tmp 6], none⟩,
    ⟨(some 8), .p (.fieldAddr 10), [.tmp 7], none⟩,
    ⟨(some 9), .r (.load none), [.tmp 8], none⟩,
    ⟨(some 10), .p .lenSl, [.tmp 9], none⟩,
    ⟨(some 11), .p (.bin .lss), [.tmp 5, .tmp 10], none⟩])
  (.cond (.tmp 11) .skip
  (.exit 0)))
  (.seq (.block 1 (.seq (.reg [⟨(some 14), .p .move, [.tmp 2], none⟩,
    ⟨(some 15), .p .move, [.tmp 0], none⟩,
    ⟨(some 16), .p .nilCheck, [.tmp 15], none⟩,
    ⟨(some 17), .p (.fieldAddr 10), [.tmp 16], none⟩,
    ⟨(some 18), .r (.load none), [.tmp 17], none⟩,
    ⟨(some 19), .p .move, [.tmp 2], none⟩,
    ⟨(some 20), .p (.indexAddr 1), [.tmp 18, .tmp 19], none⟩,
    ⟨(some 21), .r (.load none), [.tmp 20], none⟩,
    ⟨(some 22), .p .lenSl, [.tmp 21], none⟩,
    ⟨(some 23), .h (.call 71), [.tmp 14, .lit (.int .i64 0), .tmp 22], none⟩,
    ⟨(some 3), .p .move, [.tmp 23], none⟩])
  (.seq (.reg [⟨(some 4), .p .move, [.lit (.int .i64 0)], none⟩])
  (.block 2 (.loop [0, 2, 3, 4] (.seq (.seq (.reg [⟨(some 24), .p .move, [.tmp 4], none⟩,
    ⟨(some 25), .p .move, [.tmp 3], none⟩,
    ⟨(some 26), .p .lenSl, [.tmp 25], none⟩,
    ⟨(some 27), .p (.bin .lss), [.tmp 24, .tmp 26], none⟩])
  (.cond (.tmp 27) .skip
  (.exit 2)))
  (.seq (.block 3 (.dreg [⟨[⟨(some 30), .p .move, [.tmp 0], none⟩,
    ⟨(some 31), .p .nilCheck, [.tmp 30], none⟩,
    ⟨(some 32), .p (.fieldAddr 10), [.tmp 31], none⟩,
    ⟨(some 33), .r (.load none), [.tmp 32], none⟩,
    ⟨(some 34), .p .move, [.tmp 2], none⟩,
    ⟨(some 35), .p (.indexAddr 1), [.tmp 33, .tmp 34], none⟩,
    ⟨(some 36), .r (.load none), [.tmp 35], none⟩,
    ⟨(some 37), .p .move, [.tmp 4], none⟩,
    ⟨(some 38), .p .move, [.tmp 3], none⟩,
    ⟨(some 39), .p .move, [.tmp 4], none⟩,
    ⟨(some 40), .p (.indexAddr 15), [.tmp 38, .tmp 39], none⟩,
    ⟨(some 41), .r (.load (some 15)), [.tmp 40], none⟩,
    ⟨(some 42), .p (.indexAddr 15), [.tmp 36, .tmp 37], none⟩], [], some ⟨none, .h (.store 15), [.tmp 42, .tmp 41], none⟩⟩,
   ⟨[], [], none⟩]))
  (.reg [⟨(some 28), .p .move, [.tmp 4], none⟩,
    ⟨(some 29), .p (.bin .add), [.tmp 28, .lit (.int .i64 1)], none⟩,
    ⟨(some 4), .p .move, [.tmp 29], none⟩]))))))))
  (.reg [⟨(some 12), .p .move, [.tmp 2], none⟩,
    ⟨(some 13), .p (.bin .add), [.tmp 12, .lit (.int .i64 1)], none⟩,
    ⟨(some 2), .p .move, [.tmp 13], none⟩])))))), []⟩
theorem c45 : cFunc Go.Proofs.Try.prog false 1 Go.Proofs.Try.f45 = some sf45 := by kernel_rfl

/-- (*rosary/rosarybook.Book).putLetters -/
def sf46 : SFunc := ⟨1, 43, (.seq (.reg [⟨(some 2), .p .move, [.lit (.int .i64 0)], none⟩])
  (.block 0 (.loop [0, 2] (.seq (.seq (.reg [⟨(some 5), .p .move, [.tmp 2], none⟩,
    ⟨(some 6), .p .move, [.tmp 0], none⟩,
    ⟨(some 7), .p .nilCheck, [.tmp 6], none⟩,
    ⟨(some 8), .p (.fieldAddr 12), [.tmp 7], none⟩,
    ⟨(some 9), .r (.load none), [.tmp 8], none⟩,
    ⟨(some 10), .p .lenSl, [.tmp 9], none⟩,
    ⟨(some 11), .p (.bin .lss), [.tmp 5, .tmp 10], none⟩])
  (.cond (.tmp 11) .skip
  (.exit 0)))
  (.seq (.block 1 (.seq (.reg [⟨(some 14), .p .move, [.tmp 2], none⟩,
    ⟨(some 15), .p .move, [.tmp 0], none⟩,
    ⟨(some 16), .p .nilCheck, [.tmp 15], none⟩,
    ⟨(some 17), .p (.fieldAddr 12), [.tmp 16], none⟩,
    ⟨(some 18), .r (.load none), [.tmp 17], none⟩,
    ⟨(some 19), .p .move, [.tmp 2], none⟩,
    ⟨(some 20), .p (.indexAddr 1), [.tmp 18, .tmp 19], none⟩,
    ⟨(some 21), .r (.load none), [.tmp 20], none⟩,
    ⟨(some 22), .p .lenSl, [.tmp 21], none⟩,
    ⟨(some 23), .h (.call 72), [.tmp 14, .lit (.int .i64 0), .tmp 22], none⟩,
    ⟨(some 3), .p .move, [.tmp 23], none⟩])
  (.seq (.reg [⟨(some 4), .p .move, [.lit (.int .i64 0)], none⟩])
  (.block 2 (.loop [0, 2, 3, 4] (.seq (.seq (.reg [⟨(some 24), .p .move, [.tmp 4], none⟩,
    ⟨(some 25), .p .move, [.tmp 3], none⟩,
    ⟨(some 26), .p .lenSl, [.tmp 25], none⟩,
    ⟨(some 27), .p (.bin .lss), [.tmp 24, .tmp 26], none⟩])
  (.cond (.tmp 27) .skip
  (.exit 2)))
  (.seq (.block 3 (.dreg [⟨[⟨(some 30), .p .move, [.tmp 0], none⟩,
    ⟨(some 31), .p .nilCheck, [.tmp 30], none⟩,
    ⟨(some 32), .p (.fieldAddr 12), [.tmp 31], none⟩,
    ⟨(some 33), .r (.load none), [.tmp 32], none⟩,
    ⟨(some 34), .p .move, [.tmp 2], none⟩,
    ⟨(some 35), .p (.indexAddr 1), [.tmp 33, .tmp 34], none⟩,
    ⟨(some 36), .r (.load none), [.tmp 35], none⟩,
    ⟨(some 37), .p .move, [.tmp 4], none⟩,
    ⟨(some 38), .p .move, [.tmp 3], none⟩,
    ⟨(some 39), .p .move, [.tmp 4], none⟩,
    ⟨(some 40), .p (.indexAddr 21), [.tmp 38, .tmp 39], none⟩,
    ⟨(some 41), .r (.load (some 21)), [.tmp 40], none⟩,
    ⟨(some 42), .p (.indexAddr 21), [.tmp 36, .tmp 37], none⟩], [], some ⟨none, .h (.store 21), [.tmp 42, .tmp 41], none⟩⟩,
   ⟨[], [], none⟩]))
  (.reg [⟨(some 28), .p .move, [.tmp 4], none⟩,
    ⟨(some 29), .p (.bin .add), [.tmp 28, .lit (.int .i64 1)], none⟩,
    ⟨(some 4), .p .move, [.tmp 29], none⟩]))))))))
  (.reg [⟨(some 12), .p .move, [.tmp 2], none⟩,
    ⟨(some 13), .p (.bin .add), [.tmp 12, .lit (.int .i64 1)], none⟩,
    ⟨(some 2), .p .move, [.tmp 13], none⟩])))))), []⟩
theorem c46 : cFunc Go.Proofs.Try.prog false 1 Go.Proofs.Try.f46 = some sf46 := by kernel_rfl

/-- (*rosary/rosarybook.Book).putTexts -/
def sf47 : SFunc := ⟨1, 43, (.seq (.reg [⟨(some 2), .p .move, [.lit (.int .i64 0)], none⟩])
  (.block 0 (.loop [0, 2] (.seq (.seq (.reg [⟨(some 5), .p .move, [.tmp 2], none⟩,
    ⟨(some 6), .p .move, [.tmp 0], none⟩,
    ⟨(some 7), .p .nilCheck, [.tmp 6], none⟩,
    ⟨(some 8), .p (.fieldAddr 0), [.tmp 7], none⟩,
    ⟨(some 9), .r (.load none), [.tmp 8], none⟩,
    ⟨(some 10), .p .lenSl, [.tmp 9], none⟩,
    ⟨(some 11), .p (.bin .lss), [.tmp 5, .tmp 10], none⟩])
  (.cond (.tmp 11) .skip
  (.exit 0)))
  (.seq (.block 1 (.seq (.reg [⟨(some 14), .p .move, [.tmp 2], none⟩,
    ⟨(some 15), .p .move, [.tmp 0], none⟩,
    ⟨(some 16), .p .nilCheck, [.tmp 15], none⟩,
    ⟨(some 17), .p (.fieldAddr 0), [.tmp 16], none⟩,
    ⟨(some 18), .r (.load none), [.tmp 17], none⟩,
    ⟨(some 19), .p .move, [.tmp 2], none⟩,
    ⟨(some 20), .p (.indexAddr 1), [.tmp 18, .tmp 19], none⟩,
    ⟨(some 21), .r (.load none), [.tmp 20], none⟩,
    ⟨(some 22), .p .lenSl, [.tmp 21], none⟩,
    ⟨(some 23), .h (.call 73), [.tmp 14, .lit (.int .i64 0), .tmp 22], none⟩,
    ⟨(some 3), .p .move, [.tmp 23], none⟩])
  (.seq (.reg [⟨(some 4), .p .move, [.lit (.int .i64 0)], none⟩])
  (.block 2 (.loop [0, 2, 3, 4] (.seq (.seq (.reg [⟨(some 24), .p .move, [.tmp 4], none⟩,
    ⟨(some 25), .p .move, [.tmp 3], none⟩,
    ⟨(some 26), .p .lenSl, [.tmp 25], none⟩,
    ⟨(some 27), .p (.bin .lss), [.tmp 24, .tmp 26], none⟩])
  (.cond (.tmp 27) .skip
  (.exit 2)))
  (.seq (.block 3 (.dreg [⟨[⟨(some 30), .p .move, [.tmp 0], none⟩,
    ⟨(some 31), .p .nilCheck, [.tmp 30], none⟩,
    ⟨(some 32), .p (.fieldAddr 0), [.tmp 31], none⟩,
    ⟨(some 33), .r (.load none), [.tmp 32], none⟩,
    ⟨(some 34), .p .move, [.tmp 2], none⟩,
    ⟨(some 35), .p (.indexAddr 1), [.tmp 33, .tmp 34], none⟩,
    ⟨(some 36), .r (.load none), [.tmp 35], none⟩,
    ⟨(some 37), .p .move, [.tmp 4], none⟩,
    ⟨(some 38), .p .move, [.tmp 3], none⟩,
    ⟨(some 39), .p .move, [.tmp 4], none⟩,
    ⟨(some 40), .p (.indexAddr 1), [.tmp 38, .tmp 39], none⟩,
    ⟨(some 41), .r (.load none), [.tmp 40], none⟩,
    ⟨(some 42), .p (.indexAddr 1), [.tmp 36, .tmp 37], none⟩], [], some ⟨none, .h (.store 1), [.tmp 42, .tmp 41], none⟩⟩,
   ⟨[], [], none⟩]))
  (.reg [⟨(some 28), .p .move, [.tmp 4], none⟩,
    ⟨(some 29), .p (.bin .add), [.tmp 28, .lit (.int .i64 1)], none⟩,
    ⟨(some 4), .p .move, [.tmp 29], none⟩]))))))))
  (.reg [⟨(some 12), .p .move, [.tmp 2], none⟩,
    ⟨(some 13), .p (.bin .add), [.tmp 12, .lit (.int .i64 1)], none⟩,
    ⟨(some 2), .p .move, [.tmp 13], none⟩])))))), []⟩
theorem c47 : cFunc Go.Proofs.Try.prog false 1 Go.Proofs.Try.f47 = some sf47 := by kernel_rfl

/-- (*rosary/rosarybook.Book).putInts -/
def sf48 : SFunc := ⟨1, 43, (.seq (.reg [⟨(some 2), .p .move, [.lit (.int .i64 0)], none⟩])
  (.block 0 (.loop [0, 2] (.seq (.seq (.reg [⟨(some 5), .p .move, [.tmp 2], none⟩,
    ⟨(some 6), .p .move, [.tmp 0], none⟩,
    ⟨(some 7), .p .nilCheck, [.tmp 6], none⟩,
    ⟨(some 8), .p (.fieldAddr 2), [.tmp 7], none⟩,
    ⟨(some 9), .r (.load none), [.tmp 8], none⟩,
    ⟨(some 10), .p .lenSl, [.tmp 9], none⟩,
    ⟨(some 11), .p (.bin .lss), [.tmp 5, .tmp 10], none⟩])
  (.cond (.tmp 11) .skip
  (.exit 0)))
  (.seq (.block 1 (.seq (.reg [⟨(some 14), .p .move, [.tmp 2], none⟩,
    ⟨(some 15), .p .move, [.tmp 0], none⟩,
    ⟨(some 16), .p .nilCheck, [.tmp 15], none⟩,
    ⟨(some 17), .p (.fieldAddr 2), [.tmp 16], none⟩,
    ⟨(some 18), .r (.load none), [.tmp 17], none⟩,
    ⟨(some 19), .p .move, [.tmp 2], none⟩,
    ⟨(some 20), .p (.indexAddr 1), [.tmp 18, .tmp 19], none⟩,
    ⟨(some 21), .r (.load none), [.tmp 20], none⟩,
    ⟨(some 22), .p .lenSl, [.tmp 21], none⟩,
    ⟨(some 23), .h (.call 74), [.tmp 14, .lit (.int .i64 0), .tmp 22], none⟩,
    ⟨(some 3), .p .move, [.tmp 23], none⟩])
  (.seq (.reg [⟨(some 4), .p .move, [.lit (.int .i64 0)], none⟩])
  (.block 2 (.loop [0, 2, 3, 4] (.seq (.seq (.reg [⟨(some 24), .p .move, [.tmp 4], none⟩,
    ⟨(some 25), .p .move, [.tmp 3], none⟩,
    ⟨(some 26), .p .lenSl, [.tmp 25], none⟩,
    ⟨(some 27), .p (.bin .lss), [.tmp 24, .tmp 26], none⟩])
  (.cond (.tmp 27) .skip
  (.exit 2)))
  (.seq (.block 3 (.dreg [⟨[⟨(some 30), .p .move, [.tmp 0], none⟩,
    ⟨(some 31), .p .nilCheck, [.tmp 30], none⟩,
    ⟨(some 32), .p (.fieldAddr 2), [.tmp 31], none⟩,
    ⟨(some 33), .r (.load none), [.tmp 32], none⟩,
    ⟨(some 34), .p .move, [.tmp 2], none⟩,
    ⟨(some 35), .p (.indexAddr 1), [.tmp 33, .tmp 34], none⟩,
    ⟨(some 36), .r (.load none), [.tmp 35], none⟩,
    ⟨(some 37), .p .move, [.tmp 4], none⟩,
    ⟨(some 38), .p .move, [.tmp 3], none⟩,
    ⟨(some 39), .p .move, [.tmp 4], none⟩,
    ⟨(some 40), .p (.indexAddr 1), [.tmp 38, .tmp 39], none⟩,
    ⟨(some 41), .r (.load none), [.tmp 40], none⟩,
    ⟨(some 42), .p (.indexAddr 1), [.tmp 36, .tmp 37], none⟩], [], some ⟨none, .h (.store 1), [.tmp 42, .tmp 41], none⟩⟩,
   ⟨[], [], none⟩]))
  (.reg [⟨(some 28), .p .move, [.tmp 4], none⟩,
    ⟨(some 29), .p (.bin .add), [.tmp 28, .lit (.int .i64 1)], none⟩,
    ⟨(some 4), .p .move, [.tmp 29], none⟩]))))))))
  (.reg [⟨(some 12), .p .move, [.tmp 2], none⟩,
    ⟨(some 13), .p (.bin .add), [.tmp 12, .lit (.int .i64 1)], none⟩,
    ⟨(some 2), .p .move, [.tmp 13], none⟩])))))), []⟩
theorem c48 : cFunc Go.Proofs.Try.prog false 1 Go.Proofs.Try.f48 = some sf48 := by kernel_rfl

/-- (*rosary/rosarybook.Book).putPoints -/
def sf49 : SFunc := ⟨1, 43, (.seq (.reg [⟨(some 2), .p .move, [.lit (.int .i64 0)], none⟩])
  (.block 0 (.loop [0, 2] (.seq (.seq (.reg [⟨(some 5), .p .move, [.tmp 2], none⟩,
    ⟨(some 6), .p .move, [.tmp 0], none⟩,
    ⟨(some 7), .p .nilCheck, [.tmp 6], none⟩,
    ⟨(some 8), .p (.fieldAddr 4), [.tmp 7], none⟩,
    ⟨(some 9), .r (.load none), [.tmp 8], none⟩,
    ⟨(some 10), .p .lenSl, [.tmp 9], none⟩,
    ⟨(some 11), .p (.bin .lss), [.tmp 5, .tmp 10], none⟩])
  (.cond (.tmp 11) .skip
  (.exit 0)))
  (.seq (.block 1 (.seq (.reg [⟨(some 14), .p .move, [.tmp 2], none⟩,
    ⟨(some 15), .p .move, [.tmp 0], none⟩,
    ⟨(some 16), .p .nilCheck, [.tmp 15], none⟩,
    ⟨(some 17), .p (.fieldAddr 4), [.tmp 16], none⟩,
    ⟨(some 18), .r (.load none), [.tmp 17], none⟩,
    ⟨(some 19), .p .move, [.tmp 2], none⟩,
    ⟨(some 20), .p (.indexAddr 1), [.tmp 18, .tmp 19], none⟩,
    ⟨(some 21), .r (.load none), [.tmp 20], none⟩,
    ⟨(some 22), .p .lenSl, [.tmp 21], none⟩,
    ⟨(some 23), .h (.call 75), [.tmp 14, .lit (.int .i64 0), .tmp 22], none⟩,
    ⟨(some 3), .p .move, [.tmp 23], none⟩])
  (.seq (.reg [⟨(some 4), .p .move, [.lit (.int .i64 0)], none⟩])
  (.block 2 (.loop [0, 2, 3, 4] (.seq (.seq (.reg [⟨(some 24), .p .move, [.tmp 4], none⟩,
    ⟨(some 25), .p .move, [.tmp 3], none⟩,
    ⟨(some 26), .p .lenSl, [.tmp 25], none⟩,
    ⟨(some 27), .p (.bin .lss), [.tmp 24, .tmp 26], none⟩])
  (.cond (.tmp 27) .skip
  (.exit 2)))
  (.seq (.block 3 (.dreg [⟨[⟨(some 30), .p .move, [.tmp 0], none⟩,
    ⟨(some 31), .p .nilCheck, [.tmp 30], none⟩,
    ⟨(some 32), .p (.fieldAddr 4), [.tmp 31], none⟩,
    ⟨(some 33), .r (.load none), [.tmp 32], none⟩,
    ⟨(some 34), .p .move, [.tmp 2], none⟩,
    ⟨(some 35), .p (.indexAddr 1), [.tmp 33, .tmp 34], none⟩,
    ⟨(some 36), .r (.load none), [.tmp 35], none⟩,
    ⟨(some 37), .p .move, [.tmp 4], none⟩,
    ⟨(some 38), .p .move, [.tmp 3], none⟩,
    ⟨(some 39), .p .move, [.tmp 4], none⟩,
    ⟨(some 40), .p (.indexAddr 1), [.tmp 38, .tmp 39], none⟩,
    ⟨(some 41), .r (.load none), [.tmp 40], none⟩,
    ⟨(some 42), .p (.indexAddr 1), [.tmp 36, .tmp 37], none⟩], [], some ⟨none, .h (.store 1), [.tmp 42, .tmp 41], none⟩⟩,
   ⟨[], [], none⟩]))
  (.reg [⟨(some 28), .p .move, [.tmp 4], none⟩,
    ⟨(some 29), .p (.bin .add), [.tmp 28, .lit (.int .i64 1)], none⟩,
    ⟨(some 4), .p .move, [.tmp 29], none⟩]))))))))
  (.reg [⟨(some 12), .p .move, [.tmp 2], none⟩,
    ⟨(some 13), .p (.bin .add), [.tmp 12, .lit (.int .i64 1)], none⟩,
    ⟨(some 2), .p .move, [.tmp 13], none⟩])))))), []⟩
theorem c49 : cFunc Go.Proofs.Try.prog false 1 Go.Proofs.Try.f49 = some sf49 := by kernel_rfl

/-- (*rosary/rosarybook.Book).putItems -/
def sf50 : SFunc := ⟨1, 43, (.seq (.reg [⟨(some 2), .p .move, [.lit (.int .i64 0)], none⟩])
  (.block 0 (.loop [0, 2] (.seq (.seq (.reg [⟨(some 5), .p .move, [.tmp 2], none⟩,
    ⟨(some 6), .p .move, [.tmp 0], none⟩,
    ⟨(some 7), .p .nilCheck, [.tmp 6], none⟩,
    ⟨(some 8), .p (.fieldAddr 6), [.tmp 7], none⟩,
    ⟨(some 9), .r (.load none), [.tmp 8], none⟩,
    ⟨(some 10), .p .lenSl, [.tmp 9], none⟩,
    ⟨(some 11), .p (.bin .lss), [.tmp 5, .tmp 10], none⟩])
  (.cond (.tmp 11) .skip
  (.exit 0)))
  (.seq (.block 1 (.seq (.reg [⟨(some 14), .p .move, [.tmp 2], none⟩,
    ⟨(some 15), .p .move, [.tmp 0], none⟩,
    ⟨(some 16), .p .nilCheck, [.tmp 15], none⟩,
    ⟨(some 17), .p (.fieldAddr 6), [.tmp 16], none⟩,
    ⟨(some 18), .r (.load none), [.tmp 17], none⟩,
    ⟨(some 19), .p .move, [.tmp 2], none⟩,
    ⟨(some 20), .p (.indexAddr 1), [.tmp 18, .tmp 19], none⟩,
    ⟨(some 21), .r (.load none), [.tmp 20], none⟩,
    ⟨(some 22), .p .lenSl, [.tmp 21], none⟩,
    ⟨(some 23), .h (.call 76), [.tmp 14, .lit (.int .i64 0), .tmp 22], none⟩,
    ⟨(some 3), .p .move, [.tmp 23], none⟩])
  (.seq (.reg [⟨(some 4), .p .move, [.lit (.int .i64 0)], none⟩])
  (.block 2 (.loop [0, 2, 3, 4] (.seq (.seq (.reg [⟨(some 24), .p .move, [.tmp 4], none⟩,
    ⟨(some 25), .p .move, [.tmp 3], none⟩,
    ⟨(some 26), .p .lenSl, [.tmp 25], none⟩,
    ⟨(some 27), .p (.bin .lss), [.tmp 24, .tmp 26], none⟩])
  (.cond (.tmp 27) .skip
  (.exit 2)))
  (.seq (.block 3 (.dreg [⟨[⟨(some 30), .p .move, [.tmp 0], none⟩,
    ⟨(some 31), .p .nilCheck, [.tmp 30], none⟩,
    ⟨(some 32), .p (.fieldAddr 6), [.tmp 31], none⟩,
    ⟨(some 33), .r (.load none), [.tmp 32], none⟩,
    ⟨(some 34), .p .move, [.tmp 2], none⟩,
    ⟨(some 35), .p (.indexAddr 1), [.tmp 33, .tmp 34], none⟩,
    ⟨(some 36), .r (.load none), [.tmp 35], none⟩,
    ⟨(some 37), .p .move, [.tmp 4], none⟩,
    ⟨(some 38), .p .move, [.tmp 3], none⟩,
    ⟨(some 39), .p .move, [.tmp 4], none⟩,
    ⟨(some 40), .p (.indexAddr 2), [.tmp 38, .tmp 39], none⟩,
    ⟨(some 41), .r (.load (some 2)), [.tmp 40], none⟩,
    ⟨(some 42), .p (.indexAddr 2), [.tmp 36, .tmp 37], none⟩], [], some ⟨none, .h (.store 2), [.tmp 42, .tmp 41], none⟩⟩,
   ⟨[], [], none⟩]))
  (.reg [⟨(some 28), .p .move, [.tmp 4], none⟩,
    ⟨(some 29), .p (.bin .add), [.tmp 28, .lit (.int .i64 1)], none⟩,
    ⟨(some 4), .p .move, [.tmp 29], none⟩]))))))))
  (.reg [⟨(some 12), .p .move, [.tmp 2], none⟩,
    ⟨(some 13), .p (.bin .add), [.tmp 12, .lit (.int .i64 1)], none⟩,
    ⟨(some 2), .p .move, [.tmp 13], none⟩])))))), []⟩
theorem c50 : cFunc Go.Proofs.Try.prog false 1 Go.Proofs.Try.f50 = some sf50 := by kernel_rfl

/-- (*rosary/rosarybook.Book).putOwneds -/
def sf51 : SFunc := ⟨1, 43, (.seq (.reg [⟨(some 2), .p .move, [.lit (.int .i64 0)], none⟩])
  (.block 0 (.loop [0, 2] (.seq (.seq (.reg [⟨(some 5), .p .move, [.tmp 2], none⟩,
    ⟨(some 6), .p .move, [.tmp 0], none⟩,
    ⟨(some 7), .p .nilCheck, [.tmp 6], none⟩,
    ⟨(some 8), .p (.fieldAddr 8), [.tmp 7], none⟩,
    ⟨(some 9), .r (.load none), [.tmp 8], none⟩,
    ⟨(some 10), .p .lenSl, [.tmp 9], none⟩,
    ⟨(some 11), .p (.bin .lss), [.tmp 5, .tmp 10], none⟩])
  (.cond (.tmp 11) .skip
  (.exit 0)))
  (.seq (.block 1 (.seq (.reg [⟨(some 14), .p .move, [.tmp 2], none⟩,
    ⟨(some 15), .p .move, [.tmp 0], none⟩,
    ⟨(some 16), .p .nilCheck, [.tmp 15], none⟩,
    ⟨(some 17), .p (.fieldAddr 8), [.tmp 16], none⟩,
    ⟨(some 18), .r (.load none), [.tmp 17], none⟩,
    ⟨(some 19), .p .move, [.tmp 2], none⟩,
    ⟨(some 20), .p (.indexAddr 1), [.tmp 18, .tmp 19], none⟩,
    ⟨(some 21), .r (.load none), [.tmp 20], none⟩,
    ⟨(some 22), .p .lenSl, [.tmp 21], none⟩,
    ⟨(some 23), .h (.call 77), [.tmp 14, .lit (.int .i64 0), .tmp 22], none⟩,
    ⟨(some 3), .p .move, [.tmp 23], none⟩])
  (.seq (.reg [⟨(some 4), .p .move, [.lit (.int .i64 0)], none⟩])
  (.block 2 (.loop [0, 2, 3, 4] (.seq (.seq (.reg [⟨(some 24), .p .move, [.tmp 4], none⟩,
    ⟨(some 25), .p .move, [.tmp 3], none⟩,
    ⟨(some 26), .p .lenSl, [.tmp 25], none⟩,
    ⟨(some 27), .p (.bin .lss), [.tmp 24, .tmp 26], none⟩])
  (.cond (.tmp 27) .skip
  (.exit 2)))
  (.seq (.block 3 (.dreg [⟨[⟨(some 30), .p .move, [.tmp 0], none⟩,
    ⟨(some 31), .p .nilCheck, [.tmp 30], none⟩,
    ⟨(some 32), .p (.fieldAddr 8), [.tmp 31], none⟩,
    ⟨(some 33), .r (.load none), [.tmp 32], none⟩,
    ⟨(some 34), .p .move, [.tmp 2], none⟩,
    ⟨(some 35), .p (.indexAddr 1), [.tmp 33, .tmp 34], none⟩,
    ⟨(some 36), .r (.load none), [.tmp 35], none⟩,
    ⟨(some 37), .p .move, [.tmp 4], none⟩,
    ⟨(some 38), .p .move, [.tmp 3], none⟩,
    ⟨(some 39), .p .move, [.tmp 4], none⟩,
    ⟨(some 40), .p (.indexAddr 4), [.tmp 38, .tmp 39], none⟩,
    ⟨(some 41), .r (.load (some 4)), [.tmp 40], none⟩,
    ⟨(some 42), .p (.indexAddr 4), [.tmp 36, .tmp 37], none⟩], [], some ⟨none, .h (.store 4), [.tmp 42, .tmp 41], none⟩⟩,
   ⟨[], [], none⟩]))
  (.reg [⟨(some 28), .p .move, [.tmp 4], none⟩,
    ⟨(some 29), .p (.bin .add), [.tmp 28, .lit (.int .i64 1)], none⟩,
    ⟨(some 4), .p .move, [.tmp 29], none⟩]))))))))
  (.reg [⟨(some 12), .p .move, [.tmp 2], none⟩,
    ⟨(some 13), .p (.bin .add), [.tmp 12, .lit (.int .i64 1)], none⟩,
    ⟨(some 2), .p .move, [.tmp 13], none⟩])))))), []⟩
theorem c51 : cFunc Go.Proofs.Try.prog false 1 Go.Proofs.Try.f51 = some sf51 := by kernel_rfl

/-- (*rosary/rosarybook.Book).growTexts -/
def sf52 : SFunc := ⟨1, 43, (.seq (.reg [⟨(some 2), .p .move, [.lit .nilslice], none⟩])
  (.seq (.reg [⟨(some 3), .p .move, [.lit .nilslice], none⟩])
  (.seq (.seq (.reg [⟨(some 4), .p .move, [.lit (.int .i64 0)], none⟩])
  (.block 0 (.loop [0, 3, 4] (.seq (.seq (.reg [⟨(some 7), .p .move, [.tmp 4], none⟩,
    ⟨(some 8), .p .move, [.tmp 0], none⟩,
    ⟨(some 9), .p .nilCheck, [.tmp 8], none⟩,
    ⟨(some 10), .p (.fieldAddr 0), [.tmp 9], none⟩,
    ⟨(some 11), .r (.load none), [.tmp 10], none⟩,
    ⟨(some 12), .p .lenSl, [.tmp 11], none⟩,
    ⟨(some 13), .p (.bin .lss), [.tmp 7, .tmp 12], none⟩])
  (.cond (.tmp 13) .skip
  (.exit 0)))
  (.seq (.block 1 (.seq (.reg [⟨(some 16), .p .move, [.tmp 0], none⟩,
    ⟨(some 17), .p .nilCheck, [.tmp 16], none⟩,
    ⟨(some 18), .p (.fieldAddr 0), [.tmp 17], none⟩,
    ⟨(some 19), .r (.load none), [.tmp 18], none⟩,
    ⟨(some 20), .p .move, [.tmp 4], none⟩,
    ⟨(some 21), .p (.indexAddr 1), [.tmp 19, .tmp 20], none⟩,
    ⟨(some 22), .r (.load none), [.tmp 21], none⟩,
    ⟨(some 5), .p .move, [.tmp 22], none⟩])
  (.seq (.seq (.reg [⟨(some 6), .p .move, [.lit (.int .i64 0)], none⟩])
  (.block 2 (.loop [0, 3, 4, 5, 6] (.seq (.seq (.reg [⟨(some 23), .p .move, [.tmp 6], none⟩,
    ⟨(some 24), .p (.bin .lss), [.tmp 23, .lit (.int .i64 12)], none⟩])
  (.cond (.tmp 24) .skip
  (.exit 2)))
  (.seq (.block 3 (.reg [⟨(some 27), .p .move, [.tmp 5], none⟩,
    ⟨(some 28), .p .move, [.tmp 4], none⟩,
    ⟨(some 29), .p .move, [.tmp 5], none⟩,
    ⟨(some 30), .p .lenSl, [.tmp 29], none⟩,
    ⟨(some 31), .h (.call 73), [.tmp 28, .tmp 30, .lit (.int .i64 1)], none⟩,
    ⟨(some 32), .h (.append 1 false), [.tmp 27, .tmp 31], none⟩,
    ⟨(some 5), .p .move, [.tmp 32], none⟩]))
  (.reg [⟨(some 25), .p .move, [.tmp 6], none⟩,
    ⟨(some 26), .p (.bin .add), [.tmp 25, .lit (.int .i64 1)], none⟩,
    ⟨(some 6), .p .move, [.tmp 26], none⟩]))))))
  (.reg [⟨(some 33), .p .move, [.tmp 3], none⟩,
    ⟨(some 34), .p .move, [.tmp 5], none⟩,
    ⟨(some 35), .p .move, [.tmp 4], none⟩,
    ⟨(some 36), .p .move, [.tmp 5], none⟩,
    ⟨(some 37), .p .lenSl, [.tmp 36], none⟩,
    ⟨(some 38), .h (.call 73), [.tmp 35, .tmp 37, .lit (.int .i64 60)], none⟩,
    ⟨(some 39), .h (.append 1 false), [.tmp 34, .tmp 38], none⟩,
    ⟨(some 40), .a (.buildSlice 1 1 [.nilslice] [0]), [.tmp 39], none⟩,
    ⟨(some 41), .h (.append 1 false), [.tmp 33, .tmp 40], none⟩,
    ⟨(some 3), .p .move, [.tmp 41], none⟩]))))
  (.reg [⟨(some 14), .p .move, [.tmp 4], none⟩,
    ⟨(some 15), .p (.bin .add), [.tmp 14, .lit (.int .i64 1)], none⟩,
    ⟨(some 4), .p .move, [.tmp 15], none⟩]))))))
  (.seq (.reg [⟨(some 42), .p .move, [.tmp 3], none⟩,
    ⟨(some 2), .p .move, [.tmp 42], none⟩])
  .ret)))), [.tmp 2]⟩
theorem c52 : cFunc Go.Proofs.Try.prog false 1 Go.Proofs.Try.f52 = some sf52 := by kernel_rfl

/-- (*rosary/rosarybook.Book).growInts -/
def sf53 : SFunc := ⟨1, 43, (.seq (.reg [⟨(some 2), .p .move, [.lit .nilslice], none⟩])
  (.seq (.reg [⟨(some 3), .p .move, [.lit .nilslice], none⟩])
  (.seq (.seq (.reg [⟨(some 4), .p .move, [.lit (.int .i64 0)], none⟩])
  (.block 0 (.loop [0, 3, 4] (.seq (.seq (.reg [⟨(some 7), .p .move, [.tmp 4], none⟩,
    ⟨(some 8), .p .move, [.tmp 0], none⟩,
    ⟨(some 9), .p .nilCheck, [.tmp 8], none⟩,
    ⟨(some 10), .p (.fieldAddr 2), [.tmp 9], none⟩,
    ⟨(some 11), .r (.load none), [.tmp 10], none⟩,
    ⟨(some 12), .p .lenSl, [.tmp 11], none⟩,
    ⟨(some 13), .p (.bin .lss), [.tmp 7, .tmp 12], none⟩])
  (.cond (.tmp 13) .skip
  (.exit 0)))
  (.seq (.block 1 (.seq (.reg [⟨(some 16), .p .move, [.tmp 0], none⟩,
    ⟨(some 17), .p .nilCheck, [.tmp 16], none⟩,
    ⟨(some 18), .p (.fieldAddr 2), [.tmp 17], none⟩,
    ⟨(some 19), .r (.load none), [.tmp 18], none⟩,
    ⟨(some 20), .p .move, [.tmp 4], none⟩,
    ⟨(some 21), .p (.indexAddr 1), [.tmp 19, .tmp 20], none⟩,
    ⟨(some 22), .r (.load none), [.tmp 21], none⟩,
    ⟨(some 5), .p .move, [.tmp 22], none⟩])
  (.seq (.seq (.reg [⟨(some 6), .p .move, [.lit (.int .i64 0)], none⟩])
  (.block 2 (.loop [0, 3, 4, 5, 6] (.seq (.seq (.reg [⟨(some 23), .p .move, [.tmp 6], none⟩,
    ⟨(some 24), .p (.bin .lss), [.tmp 23, .lit (.int .i64 12)], none⟩])
  (.cond (.tmp 24) .skip
  (.exit 2)))
  (.seq (.block 3 (.reg [⟨(some 27), .p .move, [.tmp 5], none⟩,
    ⟨(some 28), .p .move, [.tmp 4], none⟩,
    ⟨(some 29), .p .move, [.tmp 5], none⟩,
    ⟨(some 30), .p .lenSl, [.tmp 29], none⟩,
    ⟨(some 31), .h (.call 74), [.tmp 28, .tmp 30, .lit (.int .i64 1)], none⟩,
    ⟨(some 32), .h (.append 1 false), [.tmp 27, .tmp 31], none⟩,
    ⟨(some 5), .p .move, [.tmp 32], none⟩]))
  (.reg [⟨(some 25), .p .move, [.tmp 6], none⟩,
    ⟨(some 26), .p (.bin .add), [.tmp 25, .lit (.int .i64 1)], none⟩,
    ⟨(some 6), .p .move, [.tmp 26], none⟩]))))))
  (.reg [⟨(some 33), .p .move, [.tmp 3], none⟩,
    ⟨(some 34), .p .move, [.tmp 5], none⟩,
    ⟨(some 35), .p .move, [.tmp 4], none⟩,
    ⟨(some 36), .p .move, [.tmp 5], none⟩,
    ⟨(some 37), .p .lenSl, [.tmp 36], none⟩,
    ⟨(some 38), .h (.call 74), [.tmp 35, .tmp 37, .lit (.int .i64 60)], none⟩,
    ⟨(some 39), .h (.append 1 false), [.tmp 34, .tmp 38], none⟩,
    ⟨(some 40), .a (.buildSlice 1 1 [.nilslice] [0]), [.tmp 39], none⟩,
    ⟨(some 41), .h (.append 1 false), [.tmp 33, .tmp 40], none⟩,
    ⟨(some 3), .p .move, [.tmp 41], none⟩]))))
  (.reg [⟨(some 14), .p .move, [.tmp 4], none⟩,
    ⟨(some 15), .p (.bin .add), [.tmp 14, .lit (.int .i64 1)], none⟩,
    ⟨(some 4), .p .move, [.tmp 15], none⟩]))))))
  (.seq (.reg [⟨(some 42), .p .move, [.tmp 3], none⟩,
    ⟨(some 2), .p .move, [.tmp 42], none⟩])
  .ret)))), [.tmp 2]⟩
theorem c53 : cFunc Go.Proofs.Try.prog false 1 Go.Proofs.Try.f53 = some sf53 := by kernel_rfl

/-- (*rosary/rosarybook.Book).growPoints -/
def sf54 : SFunc := ⟨1, 43, (.seq (.reg [⟨(some 2), .p .move, [.lit .nilslice], none⟩])
  (.seq (.reg [⟨(some 3), .p .move, [.lit .nilslice], none⟩])
  (.seq (.seq (.reg [⟨(some 4), .p .move, [.lit (.int .i64 0)], none⟩])
  (.block 0 (.loop [0, 3, 4] (.seq (.seq (.reg [⟨(some 7), .p .move, [.tmp 4], none⟩,
    ⟨(some 8), .p .move, [.tmp 0], none⟩,
    ⟨(some 9), .p .nilCheck, [.tmp 8], none⟩,
    ⟨(some 10), .p (.fieldAddr 4), [.tmp 9], none⟩,
    ⟨(some 11), .r (.load none), [.tmp 10], none⟩,
    ⟨(some 12), .p .lenSl, [.tmp 11], none⟩,
    ⟨(some 13), .p (.bin .lss), [.tmp 7, .tmp 12], none⟩])
  (.cond (.tmp 13) .skip
  (.exit 0)))
  (.seq (.block 1 (.seq (.reg [⟨(some 16), .p .move, [.tmp 0], none⟩,
    ⟨(some 17), .p .nilCheck, [.tmp 16], none⟩,
    ⟨(some 18), .p (.fieldAddr 4), [.tmp 17], none⟩,
    ⟨(some 19), .r (.load none), [.tmp 18], none⟩,
    ⟨(some 20), .p .move, [.tmp 4], none⟩,
    ⟨(some 21), .p (.indexAddr 1), [.tmp 19, .tmp 20], none⟩,
    ⟨(some 22), .r (.load none), [.tmp 21], none⟩,
    ⟨(some 5), .p .move, [.tmp 22], none⟩])
  (.seq (.seq (.reg [⟨(some 6), .p .move, [.lit (.int .i64 0)], none⟩])
  (.block 2 (.loop [0, 3, 4, 5, 6] (.seq (.seq (.reg [⟨(some 23), .p .move, [.tmp 6], none⟩,
    ⟨(some 24), .p (.bin .lss), [.tmp 23, .lit (.int .i64 12)], none⟩])
  (.cond (.tmp 24) .skip
  (.exit 2)))
  (.seq (.block 3 (.reg [⟨(some 27), .p .move, [.tmp 5], none⟩,
    ⟨(some 28), .p .move, [.tmp 4], none⟩,
    ⟨(some 29), .p .move, [.tmp 5], none⟩,
    ⟨(some 30), .p .lenSl, [.tmp 29], none⟩,
    ⟨(some 31), .h (.call 75), [.tmp 28, .tmp 30, .lit (.int .i64 1)], none⟩,
    ⟨(some 32), .h (.append 1 false), [.tmp 27, .tmp 31], none⟩,
    ⟨(some 5), .p .move, [.tmp 32], none⟩]))
  (.reg [⟨(some 25), .p .move, [.tmp 6], none⟩,
    ⟨(some 26), .p (.bin .add), [.tmp 25, .lit (.int .i64 1)], none⟩,
    ⟨(some 6), .p .move, [.tmp 26], none⟩]))))))
  (.reg [⟨(some 33), .p .move, [.tmp 3], none⟩,
    ⟨(some 34), .p .move, [.tmp 5], none⟩,
    ⟨(some 35), .p .move, [.tmp 4], none⟩,
    ⟨(some 36), .p .move, [.tmp 5], none⟩,
    ⟨(some 37), .p .lenSl, [.tmp 36], none⟩,
    ⟨(some 38), .h (.call 75), [.tmp 35, .tmp 37, .lit (.int .i64 60)], none⟩,
    ⟨(some 39), .h (.append 1 false), [.tmp 34, .tmp 38], none⟩,
    ⟨(some 40), .a (.buildSlice 1 1 [.nilslice] [0]), [.tmp 39], none⟩,
    ⟨(some 41), .h (.append 1 false), [.tmp 33, .tmp 40], none⟩,
    ⟨(some 3), .p .move, [.tmp 41], none⟩]))))
  (.reg [⟨(some 14), .p .move, [.tmp 4], none⟩,
    ⟨(some 15), .p (.bin .add), [.tmp 14, .lit (.int .i64 1)], none⟩,
    ⟨(some 4), .p .move, [.tmp 15], none⟩]))))))
  (.seq (.reg [⟨(some 42), .p .move, [.tmp 3], none⟩,
    ⟨(some 2), .p .move, [.tmp 42], none⟩])
  .ret)))), [.tmp 2]⟩
theorem c54 : cFunc Go.Proofs.Try.prog false 1 Go.Proofs.Try.f54 = some sf54 := by kernel_rfl

/-- (*rosary/rosarybook.Book).growItems -/
def sf55 : SFunc := ⟨1, 43, (.seq (.reg [⟨(some 2), .p .move, [.lit .nilslice], none⟩])
  (.seq (.reg [⟨(some 3), .p .move, [.lit .nilslice], none⟩])
  (.seq (.seq (.reg [⟨(some 4), .p .move, [.lit (.int .i64 0)], none⟩])
  (.block 0 (.loop [0, 3, 4] (.seq (.seq (.reg [⟨(some 7), .p .move, [.tmp 4], none⟩,
    ⟨(some 8), .p .move, [.tmp 0], none⟩,
    ⟨(some 9), .p .nilCheck, [.tmp 8], none⟩,
    ⟨(some 10), .p (.fieldAddr 6), [.tmp 9], none⟩,
    ⟨(some 11), .r (.load none), [.tmp 10], none⟩,
    ⟨(some 12), .p .lenSl, [.tmp 11], none⟩,
    ⟨(some 13), .p (.bin .lss), [.tmp 7, .tmp 12], none⟩])
  (.cond (.tmp 13) .skip
  (.exit 0)))
  (.seq (.block 1 (.seq (.reg [⟨(some 16), .p .move, [.tmp 0], none⟩,
    ⟨(some 17), .p .nilCheck, [.tmp 16], none⟩,
    ⟨(some 18), .p (.fieldAddr 6), [.tmp 17], none⟩,
    ⟨(some 19), .r (.load none), [.tmp 18], none⟩,
    ⟨(some 20), .p .move, [.tmp 4], none⟩,
    ⟨(some 21), .p (.indexAddr 1), [.tmp 19, .tmp 20], none⟩,
    ⟨(some 22), .r (.load none), [.tmp 21], none⟩,
    ⟨(some 5), .p .move, [.tmp 22], none⟩])
  (.seq (.seq (.reg [⟨(some 6), .p .move, [.lit (.int .i64 0)], none⟩])
  (.block 2 (.loop [0, 3, 4, 5, 6] (.seq (.seq (.reg [⟨(some 23), .p .move, [.tmp 6], none⟩,
    ⟨(some 24), .p (.bin .lss), [.tmp 23, .lit (.int .i64 12)], none⟩])
  (.cond (.tmp 24) .skip
  (.exit 2)))
  (.seq (.block 3 (.reg [⟨(some 27), .p .move, [.tmp 5], none⟩,
    ⟨(some 28), .p .move, [.tmp 4], none⟩,
    ⟨(some 29), .p .move, [.tmp 5], none⟩,
    ⟨(some 30), .p .lenSl, [.tmp 29], none⟩,
    ⟨(some 31), .h (.call 76), [.tmp 28, .tmp 30, .lit (.int .i64 1)], none⟩,
    ⟨(some 32), .h (.append 2 true), [.tmp 27, .tmp 31], none⟩,
    ⟨(some 5), .p .move, [.tmp 32], none⟩]))
  (.reg [⟨(some 25), .p .move, [.tmp 6], none⟩,
    ⟨(some 26), .p (.bin .add), [.tmp 25, .lit (.int .i64 1)], none⟩,
    ⟨(some 6), .p .move, [.tmp 26], none⟩]))))))
  (.reg [⟨(some 33), .p .move, [.tmp 3], none⟩,
    ⟨(some 34), .p .move, [.tmp 5], none⟩,
    ⟨(some 35), .p .move, [.tmp 4], none⟩,
    ⟨(some 36), .p .move, [.tmp 5], none⟩,
    ⟨(some 37), .p .lenSl, [.tmp 36], none⟩,
    ⟨(some 38), .h (.call 76), [.tmp 35, .tmp 37, .lit (.int .i64 60)], none⟩,
    ⟨(some 39), .h (.append 2 true), [.tmp 34, .tmp 38], none⟩,
    ⟨(some 40), .a (.buildSlice 1 1 [.nilslice] [0]), [.tmp 39], none⟩,
    ⟨(some 41), .h (.append 1 true), [.tmp 33, .tmp 40], none⟩,
    ⟨(some 3), .p .move, [.tmp 41], none⟩]))))
  (.reg [⟨(some 14), .p .move, [.tmp 4], none⟩,
    ⟨(some 15), .p (.bin .add), [.tmp 14, .lit (.int .i64 1)], none⟩,
    ⟨(some 4), .p .move, [.tmp 15], none⟩]))))))
  (.seq (.reg [⟨(some 42), .p .move, [.tmp 3], none⟩,
    ⟨(some 2), .p .move, [.tmp 42], none⟩])
  .ret)))), [.tmp 2]⟩
theorem c55 : cFunc Go.Proofs.Try.prog true 1 Go.Proofs.Try.f55 = some sf55 := by kernel_rfl

/-- (*rosary/rosarybook.Book).growOwneds -/
def sf56 : SFunc := ⟨1, 43, (.seq (.reg [⟨(some 2), .p .move, [.lit .nilslice], none⟩])
  (.seq (.reg [⟨(some 3), .p .move, [.lit .nilslice], none⟩])
  (.seq (.seq (.reg [⟨(some 4), .p .move, [.lit (.int .i64 0)], none⟩])
  (.block 0 (.loop [0, 3, 4] (.seq (.seq (.reg [⟨(some 7), .p .move, [.tmp 4], none⟩,
    ⟨(some 8), .p .move, [.tmp 0], none⟩,
    ⟨(some 9), .p .nilCheck, [.tmp 8], none⟩,
    ⟨(some 10), .p (.fieldAddr 8), [.tmp 9], none⟩,
    ⟨(some 11), .r (.load none), [.tmp 10], none⟩,
    ⟨(some 12), .p .lenSl, [.tmp 11], none⟩,
    ⟨(some 13), .p (.bin .lss), [.tmp 7, .tmp 12], none⟩])
  (.cond (.tmp 13) .skip
  (.exit 0)))
  (.seq (.block 1 (.seq (.reg [⟨(some 16), .p .move, [.tmp 0], none⟩,
    ⟨(some 17), .p .nilCheck, [.tmp 16], none⟩,
    ⟨(some 18), .p (.fieldAddr 8), [.tmp 17], none⟩,
    ⟨(some 19), .r (.load none), [.tmp 18], none⟩,
    ⟨(some 20), .p .move, [.tmp 4], none⟩,
    ⟨(some 21), .p (.indexAddr 1), [.tmp 19, .tmp 20], none⟩,
    ⟨(some 22), .r (.load none), [.tmp 21], none⟩,
    ⟨(some 5), .p .move, [.tmp 22], none⟩])
  (.seq (.seq (.reg [⟨(some 6), .p .move, [.lit (.int .i64 0)], none⟩])
  (.block 2 (.loop [0, 3, 4, 5, 6] (.seq (.seq (.reg [⟨(some 23), .p .move, [.tmp 6], none⟩,
    ⟨(some 24), .p (.bin .lss), [.tmp 23, .lit (.int .i64 12)], none⟩])
  (.cond (.tmp 24) .skip
  (.exit 2)))
  (.seq (.block 3 (.reg [⟨(some 27), .p .move, [.tmp 5], none⟩,
    ⟨(some 28), .p .move, [.tmp 4], none⟩,
    ⟨(some 29), .p .move, [.tmp 5], none⟩,
    ⟨(some 30), .p .lenSl, [.tmp 29], none⟩,
    ⟨(some 31), .h (.call 77), [.tmp 28, .tmp 30, .lit (.int .i64 1)], none⟩,
    ⟨(some 32), .h (.append 4 false), [.tmp 27, .tmp 31], none⟩,
    ⟨(some 5), .p .move, [.tmp 32], none⟩]))
  (.reg [⟨(some 25), .p .move, [.tmp 6], none⟩,
    ⟨(some 26), .p (.bin .add), [.tmp 25, .lit (.int .i64 1)], none⟩,
    ⟨(some 6), .p .move, [.tmp 26], none⟩]))))))
  (.reg [⟨(some 33), .p .move, [.tmp 3], none⟩,
    ⟨(some 34), .p .move, [.tmp 5], none⟩,
    ⟨(some 35), .p .move, [.tmp 4], none⟩,
    ⟨(some 36), .p .move, [.tmp 5], none⟩,
    ⟨(some 37), .p .lenSl, [.tmp 36], none⟩,
    ⟨(some 38), .h (.call 77), [.tmp 35, .tmp 37, .lit (.int .i64 60)], none⟩,
    ⟨(some 39), .h (.append 4 false), [.tmp 34, .tmp 38], none⟩,
    ⟨(some 40), .a (.buildSlice 1 1 [.nilslice] [0]), [.tmp 39], none⟩,
    ⟨(some 41), .h (.append 1 false), [.tmp 33, .tmp 40], none⟩,
    ⟨(some 3), .p .move, [.tmp 41], none⟩]))))
  (.reg [⟨(some 14), .p .move, [.tmp 4], none⟩,
    ⟨(some 15), .p (.bin .add), [.tmp 14, .lit (.int .i64 1)], none⟩,
    ⟨(some 4), .p .move, [.tmp 15], none⟩]))))))
  (.seq (.reg [⟨(some 42), .p .move, [.tmp 3], none⟩,
    ⟨(some 2), .p .move, [.tmp 42], none⟩])
  .ret)))), [.tmp 2]⟩
theorem c56 : cFunc Go.Proofs.Try.prog false 1 Go.Proofs.Try.f56 = some sf56 := by kernel_rfl

/-- (*rosary/rosarybook.Book).growEvents -/
def sf57 : SFunc := ⟨1, 43, (.seq (.reg [⟨(some 2), .p .move, [.lit .nilslice], none⟩])
  (.seq (.reg [⟨(some 3), .p .move, [.lit .nilslice], none⟩])
  (.seq (.seq (.reg [⟨(some 4), .p .move, [.lit (.int .i64 0)], none⟩])
  (.block 0 (.loop [0, 3, 4] (.seq (.seq (.reg [⟨(some 7), .p .move, [.tmp 4], none⟩,
    ⟨(some 8), .p .move, [.tmp 0], none⟩,
    ⟨(some 9), .p .nilCheck, [.tmp 8], none⟩,
    ⟨(some 10), .p (.fieldAddr 10), [.tmp 9], none⟩,
    ⟨(some 11), .r (.load none), [.tmp 10], none⟩,
    ⟨(some 12), .p .lenSl, [.tmp 11], none⟩,
    ⟨(some 13), .p (.bin .lss), [.tmp 7, .tmp 12], none⟩])
  (.cond (.tmp 13) .skip
  (.exit 0)))
  (.seq (.block 1 (.seq (.reg [⟨(some 16), .p .move, [.tmp 0], none⟩,
    ⟨(some 17), .p .nilCheck, [.tmp 16], none⟩,
    ⟨(some 18), .p (.fieldAddr 10), [.tmp 17], none⟩,
    ⟨(some 19), .r (.load none), [.tmp 18], none⟩,
    ⟨(some 20), .p .move, [.tmp 4], none⟩,
    ⟨(some 21), .p (.indexAddr 1), [.tmp 19, .tmp 20], none⟩,
    ⟨(some 22), .r (.load none), [.tmp 21], none⟩,
    ⟨(some 5), .p .move, [.tmp 22], none⟩])
  (.seq (.seq (.reg [⟨(some 6), .p .move, [.lit (.int .i64 0)], none⟩])
  (.block 2 (.loop [0, 3, 4, 5, 6] (.seq (.seq (.reg [⟨(some 23), .p .move, [.tmp 6], none⟩,
    ⟨(some 24), .p (.bin .lss), [.tmp 23, .lit (.int .i64 12)], none⟩])
  (.cond (.tmp 24) .skip
  (.exit 2)))
  (.seq (.block 3 (.reg [⟨(some 27), .p .move, [.tmp 5], none⟩,
    ⟨(some 28), .p .move, [.tmp 4], none⟩,
    ⟨(some 29), .p .move, [.tmp 5], none⟩,
    ⟨(some 30), .p .lenSl, [.tmp 29], none⟩,
    ⟨(some 31), .h (.call 71), [.tmp 28, .tmp 30, .lit (.int .i64 1)], none⟩,
    ⟨(some 32), .h (.append 15 false), [.tmp 27, .tmp 31], none⟩,
    ⟨(some 5), .p .move, [.tmp 32], none⟩]))
  (.reg [⟨(some 25), .p .move, [.tmp 6], none⟩,
    ⟨(some 26), .p (.bin .add), [.tmp 25, .lit (.int .i64 1)], none⟩,
    ⟨(some 6), .p .move, [.tmp 26], none⟩]))))))
  (.reg [⟨(some 33), .p .move, [.tmp 3], none⟩,
    ⟨(some 34), .p .move, [.tmp 5], none⟩,
    ⟨(some 35), .p .move, [.tmp 4], none⟩,
    ⟨(some 36), .p .move, [.tmp 5], none⟩,
    ⟨(some 37), .p .lenSl, [.tmp 36], none⟩,
    ⟨(some 38), .h (.call 71), [.tmp 35, .tmp 37, .lit (.int .i64 60)], none⟩,
    ⟨(some 39), .h (.append 15 false), [.tmp 34, .tmp 38], none⟩,
    ⟨(some 40), .a (.buildSlice 1 1 [.nilslice] [0]), [.tmp 39], none⟩,
    ⟨(some 41), .h (.append 1 false), [.tmp 33, .tmp 40], none⟩,
    ⟨(some 3), .p .move, [.tmp 41], none⟩]))))
  (.reg [⟨(some 14), .p .move, [.tmp 4], none⟩,
    ⟨(some 15), .p (.bin .add), [.tmp 14, .lit (.int .i64 1)], none⟩,
    ⟨(some 4), .p .move, [.tmp 15], none⟩]))))))
  (.seq (.reg [⟨(some 42), .p .move, [.tmp 3], none⟩,
    ⟨(some 2), .p .move, [.tmp 42], none⟩])
  .ret)))), [.tmp 2]⟩
theorem c57 : cFunc Go.Proofs.Try.prog false 1 Go.Proofs.Try.f57 = some sf57 := by kernel_rfl

/-- (*rosary/rosarybook.Book).growLetters -/
def sf58 : SFunc := ⟨1, 43, (.seq (.reg [⟨(some 2), .p .move, [.lit .nilslice], none⟩])
  (.seq (.reg [⟨(some 3), .p .move, [.lit .nilslice], none⟩])
  (.seq (.seq (.reg [⟨(some 4), .p .move, [.lit (.int .i64 0)], none⟩])
  (.block 0 (.loop [0, 3, 4] (.seq (.seq (.reg [⟨(some 7), .p .move, [.tmp 4], none⟩,
    ⟨(some 8), .p .move, [.tmp 0], none⟩,
    ⟨(some 9), .p .nilCheck, [.tmp 8], none⟩,
    ⟨(some 10), .p (.fieldAddr 12), [.tmp 9], none⟩,
    ⟨(some 11), .r (.load none), [.tmp 10], none⟩,
    ⟨(some 12), .p .lenSl, [.tmp 11], none⟩,
    ⟨(some 13), .p (.bin .lss), [.tmp 7, .tmp 12], none⟩])
  (.cond (.tmp 13) .skip
  (.exit 0)))
  (.seq (.block 1 (.seq (.reg [⟨(some 16), .p .move, [.tmp 0], none⟩,
    ⟨(some 17), .p .nilCheck, [.tmp 16], none⟩,
    ⟨(some 18), .p (.fieldAddr 12), [.tmp 17], none⟩,
    ⟨(some 19), .r (.load none), [.tmp 18], none⟩,
    ⟨(some 20), .p .move, [.tmp 4], none⟩,
    ⟨(some 21), .p (.indexAddr 1), [.tmp 19, .tmp 20], none⟩,
    ⟨(some 22), .r (.load none), [.tmp 21], none⟩,
    ⟨(some 5), .p .move, [.tmp 22], none⟩])
  (.seq (.seq (.reg [⟨(some 6), .p .move, [.lit (.int .i64 0)], none⟩])
  (.block 2 (.loop [0, 3, 4, 5, 6] (.seq (.seq (.reg [⟨(some 23), .p .move, [.tmp 6], none⟩,
    ⟨(some 24), .p (.bin .lss), [.tmp 23, .lit (.int .i64 12)], none⟩])
  (.cond (.tmp 24) .skip
  (.exit 2)))
  (.seq (.block 3 (.reg [⟨(some 27), .p .move, [.tmp 5], none⟩,
    ⟨(some 28), .p .move, [.tmp 4], none⟩,
    ⟨(some 29), .p .move, [.tmp 5], none⟩,
    ⟨(some 30), .p .lenSl, [.tmp 29], none⟩,
    ⟨(some 31), .h (.call 72), [.tmp 28, .tmp 30, .lit (.int .i64 1)], none⟩,
    ⟨(some 32), .h (.append 21 true), [.tmp 27, .tmp 31], none⟩,
    ⟨(some 5), .p .move, [.tmp 32], none⟩]))
  (.reg [⟨(some 25), .p .move, [.tmp 6], none⟩,
    ⟨(some 26), .p (.bin .add), [.tmp 25, .lit (.int .i64 1)], none⟩,
    ⟨(some 6), .p .move, [.tmp 26], none⟩]))))))
  (.reg [⟨(some 33), .p .move, [.tmp 3], none⟩,
    ⟨(some 34), .p .move, [.tmp 5], none⟩,
    ⟨(some 35), .p .move, [.tmp 4], none⟩,
    ⟨(some 36), .p .move, [.tmp 5], none⟩,
    ⟨(some 37), .p .lenSl, [.tmp 36], none⟩,
    ⟨(some 38), .h (.call 72), [.tmp 35, .tmp 37, .lit (.int .i64 60)], none⟩,
    ⟨(some 39), .h (.append 21 true), [.tmp 34, .tmp 38], none⟩,
    ⟨(some 40), .a (.buildSlice 1 1 [.nilslice] [0]), [.tmp 39], none⟩,
    ⟨(some 41), .h (.append 1 true), [.tmp 33, .tmp 40], none⟩,
    ⟨(some 3), .p .move, [.tmp 41], none⟩]))))
  (.reg [⟨(some 14), .p .move, [.tmp 4], none⟩,
    ⟨(some 15), .p (.bin .add), [.tmp 14, .lit (.int .i64 1)], none⟩,
    ⟨(some 4), .p .move, [.tmp 15], none⟩]))))))
  (.seq (.reg [⟨(some 42), .p .move, [.tmp 3], none⟩,
    ⟨(some 2), .p .move, [.tmp 42], none⟩])
  .ret)))), [.tmp 2]⟩
theorem c58 : cFunc Go.Proofs.Try.prog true 1 Go.Proofs.Try.f58 = some sf58 := by kernel_rfl

/-- rosary/rosarybook.markedTexts -/
def sf59 : SFunc := ⟨1, 23, (.seq (.reg [⟨(some 2), .p .move, [.lit (.bool false)], none⟩])
  (.seq (.seq (.reg [⟨(some 3), .p .move, [.lit (.int .i64 0)], none⟩])
  (.block 0 (.loop [0, 3] (.seq (.seq (.reg [⟨(some 4), .p .move, [.tmp 3], none⟩,
    ⟨(some 5), .p .move, [.tmp 0], none⟩,
    ⟨(some 6), .p .lenSl, [.tmp 5], none⟩,
    ⟨(some 7), .p (.bin .lss), [.tmp 4, .tmp 6], none⟩])
  (.cond (.tmp 7) .skip
  (.exit 0)))
  (.seq (.block 1 (.seq (.dreg [⟨[⟨(some 10), .p .move, [.tmp 0], none⟩,
    ⟨(some 11), .p .move, [.tmp 3], none⟩,
    ⟨(some 12), .p (.indexAddr 1), [.tmp 10, .tmp 11], none⟩,
    ⟨(some 13), .r (.load none), [.tmp 12], none⟩,
    ⟨(some 14), .p .move, [.tmp 3], none⟩,
    ⟨(some 15), .p .move, [.tmp 0], none⟩,
    ⟨(some 16), .p .move, [.tmp 3], none⟩,
    ⟨(some 17), .p (.indexAddr 1), [.tmp 15, .tmp 16], none⟩,
    ⟨(some 18), .r (.load none), [.tmp 17], none⟩,
    ⟨(some 19), .p .lenSl, [.tmp 18], none⟩], [], some ⟨(some 20), .h (.call 73), [.tmp 14, .lit (.int .i64 0), .tmp 19], none⟩⟩,
   ⟨[], [⟨(some 13), .r (.load none), [.tmp 12], none⟩], some ⟨(some 21), .h (.call 66), [.tmp 13, .tmp 20], none⟩⟩,
   ⟨[⟨(some 22), .p .not, [.tmp 21], none⟩], [], none⟩])
  (.cond (.tmp 22) (.seq (.reg [⟨(some 2), .p .move, [.lit (.bool false)], none⟩])
  .ret)
  .skip)))
  (.reg [⟨(some 8), .p .move, [.tmp 3], none⟩,
    ⟨(some 9), .p (.bin .add), [.tmp 8, .lit (.int .i64 1)], none⟩,
    ⟨(some 3), .p .move, [.tmp 9], none⟩]))))))
  (.seq (.reg [⟨(some 2), .p .move, [.lit (.bool true)], none⟩])
  .ret))), [.tmp 2]⟩
theorem c59 : cFunc Go.Proofs.Try.prog false 1 Go.Proofs.Try.f59 = some sf59 := by kernel_rfl

/-- rosary/rosarybook.markedInts -/
def sf60 : SFunc := ⟨1, 23, (.seq (.reg [⟨(some 2), .p .move, [.lit (.bool false)], none⟩])
  (.seq (.seq (.reg [⟨(some 3), .p .move, [.lit (.int .i64 0)], none⟩])
  (.block 0 (.loop [0, 3] (.seq (.seq (.reg [⟨(some 4), .p .move, [.tmp 3], none⟩,
    ⟨(some 5), .p .move, [.tmp 0], none⟩,
    ⟨(some 6), .p .lenSl, [.tmp 5], none⟩,
    ⟨(some 7), .p (.bin .lss), [.tmp 4, .tmp 6], none⟩])
  (.cond (.tmp 7) .skip
  (.exit 0)))
  (.seq (.block 1 (.seq (.dreg [⟨[⟨(some 10), .p .move, [.tmp 0], none⟩,
    ⟨(some 11), .p .move, [.tmp 3], none⟩,
    ⟨(some 12), .p (.indexAddr 1), [.tmp 10, .tmp 11], none⟩,
    ⟨(some 13), .r (.load none), [.tmp 12], none⟩,
    ⟨(some 14), .p .move, [.tmp 3], none⟩,
    ⟨(some 15), .p .move, [.tmp 0], none⟩,
    ⟨(some 16), .p .move, [.tmp 3], none⟩,
    ⟨(some 17), .p (.indexAddr 1), [.tmp 15, .tmp 16], none⟩,
    ⟨(some 18), .r (.load none), [.tmp 17], none⟩,
    ⟨(some 19), .p .lenSl, [.tmp 18], none⟩], [], some ⟨(some 20), .h (.call 74), [.tmp 14, .lit (.int .i64 0), .tmp 19], none⟩⟩,
   ⟨[], [⟨(some 13), .r (.load none), [.tmp 12], none⟩], some ⟨(some 21), .h (.call 67), [.tmp 13, .tmp 20], none⟩⟩,
   ⟨[⟨(some 22), .p .not, [.tmp 21], none⟩], [], none⟩])
  (.cond (.tmp 22) (.seq (.reg [⟨(some 2), .p .move, [.lit (.bool false)], none⟩])
  .ret)
  .skip)))
  (.reg [⟨(some 8), .p .move, [.tmp 3], none⟩,
    ⟨(some 9), .p (.bin .add), [.tmp 8, .lit (.int .i64 1)], none⟩,
    ⟨(some 3), .p .move, [.tmp 9], none⟩]))))))
  (.seq (.reg [⟨(some 2), .p .move, [.lit (.bool true)], none⟩])
  .ret))), [.tmp 2]⟩
theorem c60 : cFunc Go.Proofs.Try.prog false 1 Go.Proofs.Try.f60 = some sf60 := by kernel_rfl

/-- rosary/rosarybook.markedPoints -/
def sf61 : SFunc := ⟨1, 23, (.seq (.reg [⟨(some 2), .p .move, [.lit (.bool false)], none⟩])
  (.seq (.seq (.reg [⟨(some 3), .p .move, [.lit (.int .i64 0)], none⟩])
  (.block 0 (.loop [0, 3] (.seq (.seq (.reg [⟨(some 4), .p .move, [.tmp 3], none⟩,
    ⟨(some 5), .p .move, [.tmp 0], none⟩,
    ⟨(some 6), .p .lenSl, [.tmp 5], none⟩,
    ⟨(some 7), .p (.bin .lss), [.tmp 4, .tmp 6], none⟩])
  (.cond (.tmp 7) .skip
  (.exit 0)))
  (.seq (.block 1 (.seq (.dreg [⟨[⟨(some 10), .p .move, [.tmp 0], none⟩,
    ⟨(some 11), .p .move, [.tmp 3], none⟩,
    ⟨(some 12), .p (.indexAddr 1), [.tmp 10, .tmp 11], none⟩,
    ⟨(some 13), .r (.load none), [.tmp 12], none⟩,
    ⟨(some 14), .p .move, [.tmp 3], none⟩,
    ⟨(some 15), .p .move, [.tmp 0], none⟩,
    ⟨(some 16), .p .move, [.tmp 3], none⟩,
    ⟨(some 17), .p (.indexAddr 1), [.tmp 15, .tmp 16], none⟩,
    ⟨(some 18), .r (.load none), [.tmp 17], none⟩,
    ⟨(some 19), .p .lenSl, [.tmp 18], none⟩], [], some ⟨(some 20), .h (.call 75), [.tmp 14, .lit (.int .i64 0), .tmp 19], none⟩⟩,
   ⟨[], [⟨(some 13), .r (.load none), [.tmp 12], none⟩], some ⟨(some 21), .h (.call 68), [.tmp 13, .tmp 20], none⟩⟩,
   ⟨[⟨(some 22), .p .not, [.tmp 21], none⟩], [], none⟩])
  (.cond (.tmp 22) (.seq (.reg [⟨(some 2), .p .move, [.lit (.bool false)], none⟩])
  .ret)
  .skip)))
  (.reg [⟨(some 8), .p .move, [.tmp 3], none⟩,
    ⟨(some 9), .p (.bin .add), [.tmp 8, .lit (.int .i64 1)], none⟩,
    ⟨(some 3), .p .move, [.tmp 9], none⟩]))))))
  (.seq (.reg [⟨(some 2), .p .move, [.lit (.bool true)], none⟩])
  .ret))), [.tmp 2]⟩
theorem c61 : cFunc Go.Proofs.Try.prog false 1 Go.Proofs.Try.f61 = some sf61 := by kernel_rfl

/-- rosary/rosarybook.markedItems -/
def sf62 : SFunc := ⟨1, 23, (.seq (.reg [⟨(some 2), .p .move, [.lit (.bool false)], none⟩])
  (.seq (.seq (.reg [⟨(some 3), .p .move, [.lit (.int .i64 0)], none⟩])
  (.block 0 (.loop [0, 3] (.seq (.seq (.reg [⟨(some 4), .p .move, [.tmp 3], none⟩,
    ⟨(some 5), .p .move, [.tmp 0], none⟩,
    ⟨(some 6), .p .lenSl, [.tmp 5], none⟩,
    ⟨(some 7), .p (.bin .lss), [.tmp 4, .tmp 6], none⟩])
  (.cond (.tmp 7) .skip
  (.exit 0)))
  (.seq (.block 1 (.seq (.dreg [⟨[⟨(some 10), .p .move, [.tmp 0], none⟩,
    ⟨(some 11), .p .move, [.tmp 3], none⟩,
    ⟨(some 12), .p (.indexAddr 1), [.tmp 10, .tmp 11], none⟩,
    ⟨(some 13), .r (.load none), [.tmp 12], none⟩,
    ⟨(some 14), .p .move, [.tmp 3], none⟩,
    ⟨(some 15), .p .move, [.tmp 0], none⟩,
    ⟨(some 16), .p .move, [.tmp 3], none⟩,
    ⟨(some 17), .p (.indexAddr 1), [.tmp 15, .tmp 16], none⟩,
    ⟨(some 18), .r (.load none), [.tmp 17], none⟩,
    ⟨(some 19), .p .lenSl, [.tmp 18], none⟩], [], some ⟨(some 20), .h (.call 76), [.tmp 14, .lit (.int .i64 0), .tmp 19], none⟩⟩,
   ⟨[], [⟨(some 13), .r (.load none), [.tmp 12], none⟩], some ⟨(some 21), .h (.call 37), [.tmp 13, .tmp 20], none⟩⟩,
   ⟨[⟨(some 22), .p .not, [.tmp 21], none⟩], [], none⟩])
  (.cond (.tmp 22) (.seq (.reg [⟨(some 2), .p .move, [.lit (.bool false)], none⟩])
  .ret)
  .skip)))
  (.reg [⟨(some 8), .p .move, [.tmp 3], none⟩,
    ⟨(some 9), .p (.bin .add), [.tmp 8, .lit (.int .i64 1)], none⟩,
    ⟨(some 3), .p .move, [.tmp 9], none⟩]))))))
  (.seq (.reg [⟨(some 2), .p .move, [.lit (.bool true)], none⟩])
  .ret))), [.tmp 2]⟩
theorem c62 : cFunc Go.Proofs.Try.prog false 1 Go.Proofs.Try.f62 = some sf62 := by kernel_rfl

/-- rosary/rosarybook.markedOwneds -/
def sf63 : SFunc := ⟨1, 23, (.seq (.reg [⟨(some 2), .p .move, [.lit (.bool false)], none⟩])
  (.seq (.seq (.reg [⟨(some 3), .p .move, [.lit (.int .i64 0)], none⟩])
  (.block 0 (.loop [0, 3] (.seq (.seq (.reg [⟨(some 4), .p .move, [.tmp 3], none⟩,
    ⟨(some 5), .p .move, [.tmp 0], none⟩,
    ⟨(some 6), .p .lenSl, [.tmp 5], none⟩,
    ⟨(some 7), .p (.bin .lss), [.tmp 4, .tmp 6], none⟩])
  (.cond (.tmp 7) .skip
  (.exit 0)))
  (.seq (.block 1 (.seq (.dreg [⟨[⟨(some 10), .p .move, [.tmp 0], none⟩,
    ⟨(some 11), .p .move, [.tmp 3], none⟩,
    ⟨(some 12), .p (.indexAddr 1), [.tmp 10, .tmp 11], none⟩,
    ⟨(some 13), .r (.load none), [.tmp 12], none⟩,
    ⟨(some 14), .p .move, [.tmp 3], none⟩,
    ⟨(some 15), .p .move, [.tmp 0], none⟩,
    ⟨(some 16), .p .move, [.tmp 3], none⟩,
    ⟨(some 17), .p (.indexAddr 1), [.tmp 15, .tmp 16], none⟩,
    ⟨(some 18), .r (.load none), [.tmp 17], none⟩,
    ⟨(some 19), .p .lenSl, [.tmp 18], none⟩], [], some ⟨(some 20), .h (.call 77), [.tmp 14, .lit (.int .i64 0), .tmp 19], none⟩⟩,
   ⟨[], [⟨(some 13), .r (.load none), [.tmp 12], none⟩], some ⟨(some 21), .h (.call 69), [.tmp 13, .tmp 20], none⟩⟩,
   ⟨[⟨(some 22), .p .not, [.tmp 21], none⟩], [], none⟩])
  (.cond (.tmp 22) (.seq (.reg [⟨(some 2), .p .move, [.lit (.bool false)], none⟩])
  .ret)
  .skip)))
  (.reg [⟨(some 8), .p .move, [.tmp 3], none⟩,
    ⟨(some 9), .p (.bin .add), [.tmp 8, .lit (.int .i64 1)], none⟩,
    ⟨(some 3), .p .move, [.tmp 9], none⟩]))))))
  (.seq (.reg [⟨(some 2), .p .move, [.lit (.bool true)], none⟩])
  .ret))), [.tmp 2]⟩
theorem c63 : cFunc Go.Proofs.Try.prog false 1 Go.Proofs.Try.f63 = some sf63 := by kernel_rfl

/-- rosary/rosarybook.markedEvents -/
def sf64 : SFunc := ⟨1, 23, (.seq (.reg [⟨(some 2), .p .move, [.lit (.bool false)], none⟩])
  (.seq (.seq (.reg [⟨(some 3), .p .move, [.lit (.int .i64 0)], none⟩])
  (.block 0 (.loop [0, 3] (.seq (.seq (.reg [⟨(some 4), .p .move, [.tmp 3], none⟩,
    ⟨(some 5), .p .move, [.tmp 0], none⟩,
    ⟨(some 6), .p .lenSl, [.tmp 5], none⟩,
    ⟨(some 7), .p (.bin .lss), [.tmp 4, .tmp 6], none⟩])
  (.cond (.tmp 7) .skip
  (.exit 0)))
  (.seq (.block 1 (.seq (.dreg [⟨[⟨(some 10), .p .move, [.tmp 0], none⟩,
    ⟨(some 11), .p .move, [.tmp 3], none⟩,
    ⟨(some 12), .p (.indexAddr 1), [.tmp 10, .tmp 11], none⟩,
    ⟨(some 13), .r (.load none), [.tmp 12], none⟩,
    ⟨(some 14), .p .move, [.tmp 3], none⟩,
    ⟨(some 15), .p .move, [.tmp 0], none⟩,
    ⟨(some 16), .p .move, [.tmp 3], none⟩,
    ⟨(some 17), .p (.indexAddr 1), [.tmp 15, .tmp 16], none⟩,
    ⟨(some 18), .r (.load none), [.tmp 17], none⟩,
    ⟨(some 19), .p .lenSl, [.tmp 18], none⟩], [], some ⟨(some 20), .h (.call 71), [.tmp 14, .lit (.int .i64 0), .tmp 19], none⟩⟩,
   ⟨[], [⟨(some 13), .r (.load none), [.tmp 12], none⟩], some ⟨(some 21), .h (.call 70), [.tmp 13, .tmp 20], none⟩⟩,
   ⟨[⟨(some 22), .p .not, [.tmp 21], none⟩], [], none⟩])
  (.cond (.tmp 22) (.seq (.reg [⟨(some 2), .p .move, [.lit (.bool false)], none⟩])
  .ret)
  .skip)))
  (.reg [⟨(some 8), .p .move, [.tmp 3], none⟩,
    ⟨(some 9), .p (.bin .add), [.tmp 8, .lit (.int .i64 1)], none⟩,
    ⟨(some 3), .p .move, [.tmp 9], none⟩]))))))
  (.seq (.reg [⟨(some 2), .p .move, [.lit (.bool true)], none⟩])
  .ret))), [.tmp 2]⟩
theorem c64 : cFunc Go.Proofs.Try.prog false 1 Go.Proofs.Try.f64 = some sf64 := by kernel_rfl

/-- rosary/rosarybook.markedLetters -/
def sf65 : SFunc := ⟨1, 23, (.seq (.reg [⟨(some 2), .p .move, [.lit (.bool false)], none⟩])
  (.seq (.seq (.reg [⟨(some 3), .p .move, [.lit (.int .i64 0)], none⟩])
  (.block 0 (.loop [0, 3] (.seq (.seq (.reg [⟨(some 4), .p .move, [.tmp 3], none⟩,
    ⟨(some 5), .p .move, [.tmp 0], none⟩,
    ⟨(some 6), .p .lenSl, [.tmp 5], none⟩,
    ⟨(some 7), .p (.bin .lss), [.tmp 4, .tmp 6], none⟩])
  (.cond (.tmp 7) .skip
  (.exit 0)))
  (.seq (.block 1 (.seq (.dreg [⟨[⟨(some 10), .p .move, [.tmp 0], none⟩,
    ⟨(some 11), .p .move, [.tmp 3], none⟩,
    ⟨(some 12), .p (.indexAddr 1), [.tmp 10, .tmp 11], none⟩,
    ⟨(some 13), .r (.load none), [.tmp 12], none⟩,
    ⟨(some 14), .p .move, [.tmp 3], none⟩,
    ⟨(some 15), .p .move, [.tmp 0], none⟩,
    ⟨(some 16), .p .move, [.tmp 3], none⟩,
    ⟨(some 17), .p (.indexAddr 1), [.tmp 15, .tmp 16], none⟩,
    ⟨(some 18), .r (.load none), [.tmp 17], none⟩,
    ⟨(some 19), .p .lenSl, [.tmp 18], none⟩], [], some ⟨(some 20), .h (.call 72), [.tmp 14, .lit (.int .i64 0), .tmp 19], none⟩⟩,
   ⟨[], [⟨(some 13), .r (.load none), [.tmp 12], none⟩], some ⟨(some 21), .h (.call 19), [.tmp 13, .tmp 20], none⟩⟩,
   ⟨[⟨(some 22), .p .not, [.tmp 21], none⟩], [], none⟩])
  (.cond (.tmp 22) (.seq (.reg [⟨(some 2), .p .move, [.lit (.bool false)], none⟩])
  .ret)
  .skip)))
  (.reg [⟨(some 8), .p .move, [.tmp 3], none⟩,
    ⟨(some 9), .p (.bin .add), [.tmp 8, .lit (.int .i64 1)], none⟩,
    ⟨(some 3), .p .move, [.tmp 9], none⟩]))))))
  (.seq (.reg [⟨(some 2), .p .move, [.lit (.bool true)], none⟩])
  .ret))), [.tmp 2]⟩
theorem c65 : cFunc Go.Proofs.Try.prog false 1 Go.Proofs.Try.f65 = some sf65 := by kernel_rfl

/-- rosary/rosarybook.SameTexts -/
def sf66 : SFunc := ⟨2, 27, (.seq (.reg [⟨(some 4), .p .move, [.lit (.bool false)], none⟩])
  (.seq (.seq (.reg [⟨(some 6), .p .move, [.tmp 0], none⟩,
    ⟨(some 7), .p .lenSl, [.tmp 6], none⟩,
    ⟨(some 8), .p .move, [.tmp 1], none⟩,
    ⟨(some 9), .p .lenSl, [.tmp 8], none⟩,
    ⟨(some 10), .p (.bin .neq), [.tmp 7, .tmp 9], none⟩])
  (.cond (.tmp 10) (.seq (.reg [⟨(some 4), .p .move, [.lit (.bool false)], none⟩])
  .ret)
  .skip))
  (.seq (.seq (.reg [⟨(some 5), .p .move, [.lit (.int .i64 0)], none⟩])
  (.block 0 (.loop [0, 1, 5] (.seq (.seq (.reg [⟨(some 11), .p .move, [.tmp 5], none⟩,
    ⟨(some 12), .p .move, [.tmp 0], none⟩,
    ⟨(some 13), .p .lenSl, [.tmp 12], none⟩,
    ⟨(some 14), .p (.bin .lss), [.tmp 11, .tmp 13], none⟩])
  (.cond (.tmp 14) .skip
  (.exit 0)))
  (.seq (.block 1 (.seq (.dreg [⟨[⟨(some 17), .p .move, [.tmp 0], none⟩,
    ⟨(some 18), .p .move, [.tmp 5], none⟩,
    ⟨(some 19), .p (.indexAddr 1), [.tmp 17, .tmp 18], none⟩,
    ⟨(some 20), .r (.load none), [.tmp 19], none⟩,
    ⟨(some 21), .p .move, [.tmp 1], none⟩,
    ⟨(some 22), .p .move, [.tmp 5], none⟩,
    ⟨(some 23), .p (.indexAddr 1), [.tmp 21, .tmp 22], none⟩,
    ⟨(some 24), .r (.load none), [.tmp 23], none⟩,
    ⟨(some 25), .p (.bin .eql), [.tmp 20, .tmp 24], none⟩,
    ⟨(some 26), .p .not, [.tmp 25], none⟩], [], none⟩])
  (.cond (.tmp 26) (.seq (.reg [⟨(some 4), .p .move, [.lit (.bool false)], none⟩])
  .ret)
  .skip)))
  (.reg [⟨(some 15), .p .move, [.tmp 5], none⟩,
    ⟨(some 16), .p (.bin .add), [.tmp 15, .lit (.int .i64 1)], none⟩,
    ⟨(some 5), .p .move, [.tmp 16], none⟩]))))))
  (.seq (.reg [⟨(some 4), .p .move, [.lit (.bool true)], none⟩])
  .ret)))), [.tmp 4]⟩
theorem c66 : cFunc Go.Proofs.Try.prog false 2 Go.Proofs.Try.f66 = some sf66 := by kernel_rfl

/-- rosary/rosarybook.SameInts -/
def sf67 : SFunc := ⟨2, 27, (.seq (.reg [⟨(some 4), .p .move, [.lit (.bool false)], none⟩])
  (.seq (.seq (.reg [⟨(some 6), .p .move, [.tmp 0], none⟩,
    ⟨(some 7), .p .lenSl, [.tmp 6], none⟩,
    ⟨(some 8), .p .move, [.tmp 1], none⟩,
    ⟨(some 9), .p .lenSl, [.tmp 8], none⟩,
    ⟨(some 10), .p (.bin .neq), [.tmp 7, .tmp 9], none⟩])
  (.cond (.tmp 10) (.seq (.reg [⟨(some 4), .p .move, [.lit (.bool false)], none⟩])
  .ret)
  .skip))
  (.seq (.seq (.reg [⟨(some 5), .p .move, [.lit (.int .i64 0)], none⟩])
  (.block 0 (.loop [0, 1, 5] (.seq (.seq (.reg [⟨(some 11), .p .move, [.tmp 5], none⟩,
    ⟨(some 12), .p .move, [.tmp 0], none⟩,
    ⟨(some 13), .p .lenSl, [.tmp 12], none⟩,
    ⟨(some 14), .p (.bin .lss), [.tmp 11, .tmp 13], none⟩])
  (.cond (.tmp 14) .skip
  (.exit 0)))
  (.seq (.block 1 (.seq (.dreg [⟨[⟨(some 17), .p .move, [.tmp 0], none⟩,
    ⟨(some 18), .p .move, [.tmp 5], none⟩,
    ⟨(some 19), .p (.indexAddr 1), [.tmp 17, .tmp 18], none⟩,
    ⟨(some 20), .r (.load none), [.tmp 19], none⟩,
    ⟨(some 21), .p .move, [.tmp 1], none⟩,
    ⟨(some 22), .p .move, [.tmp 5], none⟩,
    ⟨(some 23), .p (.indexAddr 1), [.tmp 21, .tmp 22], none⟩,
    ⟨(some 24), .r (.load none), [.tmp 23], none⟩,
    ⟨(some 25), .p (.bin .eql), [.tmp 20, .tmp 24], none⟩,
    ⟨(some 26), .p .not, [.tmp 25], none⟩], [], none⟩])
  (.cond (.tmp 26) (.seq (.reg [⟨(some 4), .p .move, [.lit (.bool false)], none⟩])
  .ret)
  .skip)))
  (.reg [⟨(some 15), .p .move, [.tmp 5], none⟩,
    ⟨(some 16), .p (.bin .add), [.tmp 15, .lit (.int .i64 1)], none⟩,
    ⟨(some 5), .p .move, [.tmp 16], none⟩]))))))
  (.seq (.reg [⟨(some 4), .p .move, [.lit (.bool true)], none⟩])
  .ret)))), [.tmp 4]⟩
theorem c67 : cFunc Go.Proofs.Try.prog false 2 Go.Proofs.Try.f67 = some sf67 := by kernel_rfl

/-- rosary/rosarybook.SamePoints -/
def sf68 : SFunc := ⟨2, 27, (.seq (.reg [⟨(some 4), .p .move, [.lit (.bool false)], none⟩])
  (.seq (.seq (.reg [⟨(some 6), .p .move, [.tmp 0], none⟩,
    ⟨(some 7), .p .lenSl, [.tmp 6], none⟩,
    ⟨(some 8), .p .move, [.tmp 1], none⟩,
    ⟨(some 9), .p .lenSl, [.tmp 8], none⟩,
    ⟨(some 10), .p (.bin .neq), [.tmp 7, .tmp 9], none⟩])
  (.cond (.tmp 10) (.seq (.reg [⟨(some 4), .p .move, [.lit (.bool false)], none⟩])
  .ret)
  .skip))
  (.seq (.seq (.reg [⟨(some 5), .p .move, [.lit (.int .i64 0)], none⟩])
  (.block 0 (.loop [0, 1, 5] (.seq (.seq (.reg [⟨(some 11), .p .move, [.tmp 5], none⟩,
    ⟨(some 12), .p .move, [.tmp 0], none⟩,
    ⟨(some 13), .p .lenSl, [.tmp 12], none⟩,
    ⟨(some 14), .p (.bin .lss), [.tmp 11, .tmp 13], none⟩])
  (.cond (.tmp 14) .skip
  (.exit 0)))
  (.seq (.block 1 (.seq (.dreg [⟨[⟨(some 17), .p .move, [.tmp 0], none⟩,
    ⟨(some 18), .p .move, [.tmp 5], none⟩,
    ⟨(some 19), .p (.indexAddr 1), [.tmp 17, .tmp 18], none⟩,
    ⟨(some 20), .r (.load none), [.tmp 19], none⟩,
    ⟨(some 21), .p .move, [.tmp 1], none⟩,
    ⟨(some 22), .p .move, [.tmp 5], none⟩,
    ⟨(some 23), .p (.indexAddr 1), [.tmp 21, .tmp 22], none⟩,
    ⟨(some 24), .r (.load none), [.tmp 23], none⟩,
    ⟨(some 25), .p (.bin .eql), [.tmp 20, .tmp 24], none⟩,
    ⟨(some 26), .p .not, [.tmp 25], none⟩], [], none⟩])
  (.cond (.tmp 26) (.seq (.reg [⟨(some 4), .p .move, [.lit (.bool false)], none⟩])
  .ret)
  .skip)))
  (.reg [⟨(some 15), .p .move, [.tmp 5], none⟩,
    ⟨(some 16), .p (.bin .add), [.tmp 15, .lit (.int .i64 1)], none⟩,
    ⟨(some 5), .p .move, [.tmp 16], none⟩]))))))
  (.seq (.reg [⟨(some 4), .p .move, [.lit (.bool true)], none⟩])
  .ret)))), [.tmp 4]⟩
theorem c68 : cFunc Go.Proofs.Try.prog false 2 Go.Proofs.Try.f68 = some sf68 := by kernel_rfl

/-- rosary/rosarybook.SameOwneds -/
def sf69 : SFunc := ⟨2, 27, (.seq (.reg [⟨(some 4), .p .move, [.lit (.bool false)], none⟩])
  (.seq (.seq (.reg [⟨(some 6), .p .move, [.tmp 0], none⟩,
    ⟨(some 7), .p .lenSl, [.tmp 6], none⟩,
    ⟨(some 8), .p .move, [.tmp 1], none⟩,
    ⟨(some 9), .p .lenSl, [.tmp 8], none⟩,
    ⟨(some 10), .p (.bin .neq), [.tmp 7, .tmp 9], none⟩])
  (.cond (.tmp 10) (.seq (.reg [⟨(some 4), .p .move, [.lit (.bool false)], none⟩])
  .ret)
  .skip))
  (.seq (.seq (.reg [⟨(some 5), .p .move, [.lit (.int .i64 0)], none⟩])
  (.block 0 (.loop [0, 1, 5] (.seq (.seq (.reg [⟨(some 11), .p .move, [.tmp 5], none⟩,
    ⟨(some 12), .p .move, [.tmp 0], none⟩,
    ⟨(some 13), .p .lenSl, [.tmp 12], none⟩,
    ⟨(some 14), .p (.bin .lss), [.tmp 11, .tmp 13], none⟩])
  (.cond (.tmp 14) .skip
  (.exit 0)))
  (.seq (.block 1 (.seq (.dreg [⟨[⟨(some 17), .p .move, [.tmp 0], none⟩,
    ⟨(some 18), .p .move, [.tmp 5], none⟩,
    ⟨(some 19), .p (.indexAddr 4), [.tmp 17, .tmp 18], none⟩,
    ⟨(some 20), .r (.load (some 4)), [.tmp 19], none⟩,
    ⟨(some 21), .p .move, [.tmp 1], none⟩,
    ⟨(some 22), .p .move, [.tmp 5], none⟩,
    ⟨(some 23), .p (.indexAddr 4), [.tmp 21, .tmp 22], none⟩,
    ⟨(some 24), .r (.load (some 4)), [.tmp 23], none⟩,
    ⟨(some 25), .p (.eq false (.agg [.int, .int, .int, .int])), [.tmp 20, .tmp 24], none⟩,
    ⟨(some 26), .p .not, [.tmp 25], none⟩], [], none⟩])
  (.cond (.tmp 26) (.seq (.reg [⟨(some 4), .p .move, [.lit (.bool false)], none⟩])
  .ret)
  .skip)))
  (.reg [⟨(some 15), .p .move, [.tmp 5], none⟩,
    ⟨(some 16), .p (.bin .add), [.tmp 15, .lit (.int .i64 1)], none⟩,
    ⟨(some 5), .p .move, [.tmp 16], none⟩]))))))
  (.seq (.reg [⟨(some 4), .p .move, [.lit (.bool true)], none⟩])
  .ret)))), [.tmp 4]⟩
theorem c69 : cFunc Go.Proofs.Try.prog false 2 Go.Proofs.Try.f69 = some sf69 := by kernel_rfl

/-- rosary/rosarybook.SameEvents -/
def sf70 : SFunc := ⟨2, 27, (.seq (.reg [⟨(some 4), .p .move, [.lit (.bool false)], none⟩])
  (.seq (.seq (.reg [⟨(some 6), .p .move, [.tmp 0], none⟩,
    ⟨(some 7), .p .lenSl, [.tmp 6], none⟩,
    ⟨(some 8), .p .move, [.tmp 1], none⟩,
    ⟨(some 9), .p .lenSl, [.tmp 8], none⟩,
    ⟨(some 10), .p (.bin .neq), [.tmp 7, .tmp 9], none⟩])
  (.cond (.tmp 10) (.seq (.reg [⟨(some 4), .p .move, [.lit (.bool false)], none⟩])
  .ret)
  .skip))
  (.seq (.seq (.reg [⟨(some 5), .p .move, [.lit (.int .i64 0)], none⟩])
  (.block 0 (.loop [0, 1, 5] (.seq (.seq (.reg [⟨(some 11), .p .move, [.tmp 5], none⟩,
    ⟨(some 12), .p .move, [.tmp 0], none⟩,
    ⟨(some 13), .p .lenSl, [.tmp 12], none⟩,
    ⟨(some 14), .p (.bin .lss), [.tmp 11, .tmp 13], none⟩])
  (.cond (.tmp 14) .skip
  (.exit 0)))
  (.seq (.block 1 (.seq (.dreg [⟨[⟨(some 17), .p .move, [.tmp 0], none⟩,
    ⟨(some 18), .p .move, [.tmp 5], none⟩,
    ⟨(some 19), .p (.indexAddr 15), [.tmp 17, .tmp 18], none⟩,
    ⟨(some 20), .r (.load (some 15)), [.tmp 19], none⟩,
    ⟨(some 21), .p .move, [.tmp 1], none⟩,
    ⟨(some 22), .p .move, [.tmp 5], none⟩,
    ⟨(some 23), .p (.indexAddr 15), [.tmp 21, .tmp 22], none⟩,
    ⟨(some 24), .r (.load (some 15)), [.tmp 23], none⟩], [], some ⟨(some 25), .h (.call 78), [.tmp 20, .tmp 24], none⟩⟩,
   ⟨[⟨(some 26), .p .not, [.tmp 25], none⟩], [], none⟩])
  (.cond (.tmp 26) (.seq (.reg [⟨(some 4), .p .move, [.lit (.bool false)], none⟩])
  .ret)
  .skip)))
  (.reg [⟨(some 15), .p .move, [.tmp 5], none⟩,
    ⟨(some 16), .p (.bin .add), [.tmp 15, .lit (.int .i64 1)], none⟩,
    ⟨(some 5), .p .move, [.tmp 16], none⟩]))))))
  (.seq (.reg [⟨(some 4), .p .move, [.lit (.bool true)], none⟩])
  .ret)))), [.tmp 4]⟩
theorem c70 : cFunc Go.Proofs.Try.prog false 2 Go.Proofs.Try.f70 = some sf70 := by kernel_rfl

/-- rosary/rosarybook.markEvents -/
def sf71 : SFunc := ⟨3, 27, (.seq (.reg [⟨(some 6), .p .move, [.lit .nilslice], none⟩])
  (.seq (.reg [⟨(some 7), .p .move, [.lit .nilslice], none⟩])
  (.seq (.seq (.reg [⟨(some 9), .p .move, [.tmp 1], none⟩,
    ⟨(some 8), .p .move, [.tmp 9], none⟩])
  (.block 0 (.loop [0, 1, 2, 7, 8] (.seq (.seq (.reg [⟨(some 10), .p .move, [.tmp 8], none⟩,
    ⟨(some 11), .p .move, [.tmp 1], none⟩,
    ⟨(some 12), .p .move, [.tmp 2], none⟩,
    ⟨(some 13), .p (.bin .add), [.tmp 11, .tmp 12], none⟩,
    ⟨(some 14), .p (.bin .lss), [.tmp 10, .tmp 13], none⟩])
  (.cond (.tmp 14) .skip
  (.exit 0)))
  (.seq (.block 1 (.reg [⟨(some 17), .p .move, [.tmp 7], none⟩,
    ⟨(some 18), .p .move, [.tmp 0], none⟩,
    ⟨(some 19), .p (.bin .mul), [.lit (.int .i64 (-1000)), .tmp 18], none⟩,
    ⟨(some 20), .p .move, [.tmp 8], none⟩,
    ⟨(some 21), .p (.bin .sub), [.tmp 19, .tmp 20], none⟩,
    ⟨(some 22), .p (.bin .sub), [.tmp 21, .lit (.int .i64 1)], none⟩,
    ⟨(some 23), .p (.build [(.int .i64 0), (.int .i64 0), (.int .i64 0), (.int .i64 0), (.int .i64 0), (.str []), (.str []), (.str []), (.int .i64 0), (.int .i64 0), (.str []), .nilslice, (.bool false), (.str []), (.int .i64 0)] [(0, 1)]), [.tmp 22], none⟩,
    ⟨(some 24), .a (.buildSlice 15 1 [(.int .i64 0), (.int .i64 0), (.int .i64 0), (.int .i64 0), (.int .i64 0), (.str []), (.str []), (.str []), (.int .i64 0), (.int .i64 0), (.str []), .nilslice, (.bool false), (.str []), (.int .i64 0)] [0]), [.tmp 23], none⟩,
    ⟨(some 25), .h (.append 15 false), [.tmp 17, .tmp 24], none⟩,
    ⟨(some 7), .p .move, [.tmp 25], none⟩]))
  (.reg [⟨(some 15), .p .move, [.tmp 8], none⟩,
    ⟨(some 16), .p (.bin .add), [.tmp 15, .lit (.int .i64 1)], none⟩,
    ⟨(some 8), .p .move, [.tmp 16], none⟩]))))))
  (.seq (.reg [⟨(some 26), .p .move, [.tmp 7], none⟩,
    ⟨(some 6), .p .move, [.tmp 26], none⟩])
  .ret)))), [.tmp 6]⟩
theorem c71 : cFunc Go.Proofs.Try.prog false 3 Go.Proofs.Try.f71 = some sf71 := by kernel_rfl

/-- rosary/rosarybook.markLetters -/
def sf72 : SFunc := ⟨3, 27, (.seq (.reg [⟨(some 6), .p .move, [.lit .nilslice], none⟩])
  (.seq (.reg [⟨(some 7), .p .move, [.lit .nilslice], none⟩])
  (.seq (.seq (.reg [⟨(some 9), .p .move, [.tmp 1], none⟩,
    ⟨(some 8), .p .move, [.tmp 9], none⟩])
  (.block 0 (.loop [0, 1, 2, 7, 8] (.seq (.seq (.reg [⟨(some 10), .p .move, [.tmp 8], none⟩,
    ⟨(some 11), .p .move, [.tmp 1], none⟩,
    ⟨(some 12), .p .move, [.tmp 2], none⟩,
    ⟨(some 13), .p (.bin .add), [.tmp 11, .tmp 12], none⟩,
    ⟨(some 14), .p (.bin .lss), [.tmp 10, .tmp 13], none⟩])
  (.cond (.tmp 14) .skip
  (.exit 0)))
  (.seq (.block 1 (.reg [⟨(some 17), .p .move, [.tmp 7], none⟩,
    ⟨(some 18), .p .move, [.tmp 0], none⟩,
    ⟨(some 19), .p (.bin .mul), [.lit (.int .i64 (-1000)), .tmp 18], none⟩,
    ⟨(some 20), .p .move, [.tmp 8], none⟩,
    ⟨(some 21), .p (.bin .sub), [.tmp 19, .tmp 20], none⟩,
    ⟨(some 22), .p (.bin .sub), [.tmp 21, .lit (.int .i64 1)], none⟩,
    ⟨(some 23), .p (.build [(.int .i64 0), (.int .i64 0), (.int .i64 0), (.int .i64 0), (.int .i64 0), (.str []), (.str []), (.str []), (.int .i64 0), (.int .i64 0), (.str []), .nilslice, (.bool false), (.str []), (.int .i64 0), (.int .u64 0), (.int .u64 0), (.int .i64 0), .nilslice, (.int .i64 0), (.int .i64 0)] [(0, 1)]), [.tmp 22], none⟩,
    ⟨(some 24), .a (.buildSlice 21 1 [(.int .i64 0), (.int .i64 0), (.int .i64 0), (.int .i64 0), (.int .i64 0), (.str []), (.str []), (.str []), (.int .i64 0), (.int .i64 0), (.str []), .nilslice, (.bool false), (.str []), (.int .i64 0), (.int .u64 0), (.int .u64 0), (.int .i64 0), .nilslice, (.int .i64 0), (.int .i64 0)] [0]), [.tmp 23], none⟩,
    ⟨(some 25), .h (.append 21 false), [.tmp 17, .tmp 24], none⟩,
    ⟨(some 7), .p .move, [.tmp 25], none⟩]))
  (.reg [⟨(some 15), .p .move, [.tmp 8], none⟩,
    ⟨(some 16), .p (.bin .add), [.tmp 15, .lit (.int .i64 1)], none⟩,
    ⟨(some 8), .p .move, [.tmp 16], none⟩]))))))
  (.seq (.reg [⟨(some 26), .p .move, [.tmp 7], none⟩,
    ⟨(some 6), .p .move, [.tmp 26], none⟩])
  .ret)))), [.tmp 6]⟩
theorem c72 : cFunc Go.Proofs.Try.prog false 3 Go.Proofs.Try.f72 = some sf72 := by kernel_rfl

/-- rosary/rosarybook.markTexts -/
def sf73 : SFunc := ⟨3, 24, (.seq (.reg [⟨(some 6), .p .move, [.lit .nilslice], none⟩])
  (.seq (.reg [⟨(some 7), .p .move, [.lit .nilslice], none⟩])
  (.seq (.seq (.reg [⟨(some 9), .p .move, [.tmp 1], none⟩,
    ⟨(some 8), .p .move, [.tmp 9], none⟩])
  (.block 0 (.loop [0, 1, 2, 7, 8] (.seq (.seq (.reg [⟨(some 10), .p .move, [.tmp 8], none⟩,
    ⟨(some 11), .p .move, [.tmp 1], none⟩,
    ⟨(some 12), .p .move, [.tmp 2], none⟩,
    ⟨(some 13), .p (.bin .add), [.tmp 11, .tmp 12], none⟩,
    ⟨(some 14), .p (.bin .lss), [.tmp 10, .tmp 13], none⟩])
  (.cond (.tmp 14) .skip
  (.exit 0)))
  (.seq (.block 1 (.reg [⟨(some 17), .p .move, [.tmp 7], none⟩,
    ⟨(some 18), .p .move, [.tmp 0], none⟩,
    ⟨(some 19), .p .move, [.tmp 8], none⟩,
    ⟨(some 20), .h (.call 79), [.tmp 18, .tmp 19], none⟩,
    ⟨(some 21), .a (.buildSlice 1 1 [(.str [])] [0]), [.tmp 20], none⟩,
    ⟨(some 22), .h (.append 1 false), [.tmp 17, .tmp 21], none⟩,
    ⟨(some 7), .p .move, [.tmp 22], none⟩]))
  (.reg [⟨(some 15), .p .move, [.tmp 8], none⟩,
    ⟨(some 16), .p (.bin .add), [.tmp 15, .lit (.int .i64 1)], none⟩,
    ⟨(some 8), .p .move, [.tmp 16], none⟩]))))))
  (.seq (.reg [⟨(some 23), .p .move, [.tmp 7], none⟩,
    ⟨(some 6), .p .move, [.tmp 23], none⟩])
  .ret)))), [.tmp 6]⟩
theorem c73 : cFunc Go.Proofs.Try.prog false 3 Go.Proofs.Try.f73 = some sf73 := by kernel_rfl

/-- rosary/rosarybook.markInts -/
def sf74 : SFunc := ⟨3, 26, (.seq (.reg [⟨(some 6), .p .move, [.lit .nilslice], none⟩])
  (.seq (.reg [⟨(some 7), .p .move, [.lit .nilslice], none⟩])
  (.seq (.seq (.reg [⟨(some 9), .p .move, [.tmp 1], none⟩,
    ⟨(some 8), .p .move, [.tmp 9], none⟩])
  (.block 0 (.loop [0, 1, 2, 7, 8] (.seq (.seq (.reg [⟨(some 10), .p .move, [.tmp 8], none⟩,
    ⟨(some 11), .p .move, [.tmp 1], none⟩,
    ⟨(some 12), .p .move, [.tmp 2], none⟩,
    ⟨(some 13), .p (.bin .add), [.tmp 11, .tmp 12], none⟩,
    ⟨(some 14), .p (.bin .lss), [.tmp 10, .tmp 13], none⟩])
  (.cond (.tmp 14) .skip
  (.exit 0)))
  (.seq (.block 1 (.reg [⟨(some 17), .p .move, [.tmp 7], none⟩,
    ⟨(some 18), .p .move, [.tmp 0], none⟩,
    ⟨(some 19), .p (.bin .mul), [.lit (.int .i64 (-1000000)), .tmp 18], none⟩,
    ⟨(some 20), .p .move, [.tmp 8], none⟩,
    ⟨(some 21), .p (.bin .sub), [.tmp 19, .tmp 20], none⟩,
    ⟨(some 22), .p (.bin .sub), [.tmp 21, .lit (.int .i64 7)], none⟩,
    ⟨(some 23), .a (.buildSlice 1 1 [(.int .i64 0)] [0]), [.tmp 22], none⟩,
    ⟨(some 24), .h (.append 1 false), [.tmp 17, .tmp 23], none⟩,
    ⟨(some 7), .p .move, [.tmp 24], none⟩]))
  (.reg [⟨(some 15), .p .move, [.tmp 8], none⟩,
    ⟨(some 16), .p (.bin .add), [.tmp 15, .lit (.int .i64 1)], none⟩,
    ⟨(some 8), .p .move, [.tmp 16], none⟩]))))))
  (.seq (.reg [⟨(some 25), .p .move, [.tmp 7], none⟩,
    ⟨(some 6), .p .move, [.tmp 25], none⟩])
  .ret)))), [.tmp 6]⟩
theorem c74 : cFunc Go.Proofs.Try.prog false 3 Go.Proofs.Try.f74 = some sf74 := by kernel_rfl

/-- rosary/rosarybook.markPoints -/
def sf75 : SFunc := ⟨3, 27, (.seq (.reg [⟨(some 6), .p .move, [.lit .nilslice], none⟩])
  (.seq (.reg [⟨(some 7), .p .move, [.lit .nilslice], none⟩])
  (.seq (.seq (.reg [⟨(some 9), .p .move, [.tmp 1], none⟩,
    ⟨(some 8), .p .move, [.tmp 9], none⟩])
  (.block 0 (.loop [0, 1, 2, 7, 8] (.seq (.seq (.reg [⟨(some 10), .p .move, [.tmp 8], none⟩,
    ⟨(some 11), .p .move, [.tmp 1], none⟩,
    ⟨(some 12), .p .move, [.tmp 2], none⟩,
    ⟨(some 13), .p (.bin .add), [.tmp 11, .tmp 12], none⟩,
    ⟨(some 14), .p (.bin .lss), [.tmp 10, .tmp 13], none⟩])
  (.cond (.tmp 14) .skip
  (.exit 0)))
  (.seq (.block 1 (.reg [⟨(some 17), .p .move, [.tmp 7], none⟩,
    ⟨(some 18), .p .move, [.tmp 0], none⟩,
    ⟨(some 19), .p (.bin .mul), [.lit (.int .i64 1000000), .tmp 18], none⟩,
    ⟨(some 20), .p .move, [.tmp 8], none⟩,
    ⟨(some 21), .p (.bin .add), [.tmp 19, .tmp 20], none⟩,
    ⟨(some 22), .p (.bin .add), [.tmp 21, .lit (.int .i64 7)], none⟩,
    ⟨(some 23), .p (.convInt .u64), [.tmp 22], none⟩,
    ⟨(some 24), .a (.buildSlice 1 1 [(.int .u64 0)] [0]), [.tmp 23], none⟩,
    ⟨(some 25), .h (.append 1 false), [.tmp 17, .tmp 24], none⟩,
    ⟨(some 7), .p .move, [.tmp 25], none⟩]))
  (.reg [⟨(some 15), .p .move, [.tmp 8], none⟩,
    ⟨(some 16), .p (.bin .add), [.tmp 15, .lit (.int .i64 1)], none⟩,
    ⟨(some 8), .p .move, [.tmp 16], none⟩]))))))
  (.seq (.reg [⟨(some 26), .p .move, [.tmp 7], none⟩,
    ⟨(some 6), .p .move, [.tmp 26], none⟩])
  .ret)))), [.tmp 6]⟩
theorem c75 : cFunc Go.Proofs.Try.prog false 3 Go.Proofs.Try.f75 = some sf75 := by kernel_rfl

/-- rosary/rosarybook.markItems -/
def sf76 : SFunc := ⟨3, 25, (.seq (.reg [⟨(some 6), .p .move, [.lit .nilslice], none⟩])
  (.seq (.reg [⟨(some 7), .p .move, [.lit .nilslice], none⟩])
  (.seq (.seq (.reg [⟨(some 9), .p .move, [.tmp 1], none⟩,
    ⟨(some 8), .p .move, [.tmp 9], none⟩])
  (.block 0 (.loop [0, 1, 2, 7, 8] (.seq (.seq (.reg [⟨(some 10), .p .move, [.tmp 8], none⟩,
    ⟨(some 11), .p .move, [.tmp 1], none⟩,
    ⟨(some 12), .p .move, [.tmp 2], none⟩,
    ⟨(some 13), .p (.bin .add), [.tmp 11, .tmp 12], none⟩,
    ⟨(some 14), .p (.bin .lss), [.tmp 10, .tmp 13], none⟩])
  (.cond (.tmp 14) .skip
  (.exit 0)))
  (.seq (.block 1 (.reg [⟨(some 17), .p .move, [.tmp 7], none⟩,
    ⟨(some 18), .p .move, [.tmp 0], none⟩,
    ⟨(some 19), .p .move, [.tmp 8], none⟩,
    ⟨(some 20), .h (.call 79), [.tmp 18, .tmp 19], none⟩,
    ⟨(some 21), .p (.build [(.str []), (.str [])] [(0, 1)]), [.tmp 20], none⟩,
    ⟨(some 22), .a (.buildSlice 2 1 [(.str []), (.str [])] [0]), [.tmp 21], none⟩,
    ⟨(some 23), .h (.append 2 false), [.tmp 17, .tmp 22], none⟩,
    ⟨(some 7), .p .move, [.tmp 23], none⟩]))
  (.reg [⟨(some 15), .p .move, [.tmp 8], none⟩,
    ⟨(some 16), .p (.bin .add), [.tmp 15, .lit (.int .i64 1)], none⟩,
    ⟨(some 8), .p .move, [.tmp 16], none⟩]))))))
  (.seq (.reg [⟨(some 24), .p .move, [.tmp 7], none⟩,
    ⟨(some 6), .p .move, [.tmp 24], none⟩])
  .ret)))), [.tmp 6]⟩
theorem c76 : cFunc Go.Proofs.Try.prog false 3 Go.Proofs.Try.f76 = some sf76 := by kernel_rfl

/-- rosary/rosarybook.markOwneds -/
def sf77 : SFunc := ⟨3, 27, (.seq (.reg [⟨(some 6), .p .move, [.lit .nilslice], none⟩])
  (.seq (.reg [⟨(some 7), .p .move, [.lit .nilslice], none⟩])
  (.seq (.seq (.reg [⟨(some 9), .p .move, [.tmp 1], none⟩,
    ⟨(some 8), .p .move, [.tmp 9], none⟩])
  (.block 0 (.loop [0, 1, 2, 7, 8] (.seq (.seq (.reg [⟨(some 10), .p .move, [.tmp 8], none⟩,
    ⟨(some 11), .p .move, [.tmp 1], none⟩,
    ⟨(some 12), .p .move, [.tmp 2], none⟩,
    ⟨(some 13), .p (.bin .add), [.tmp 11, .tmp 12], none⟩,
    ⟨(some 14), .p (.bin .lss), [.tmp 10, .tmp 13], none⟩])
  (.cond (.tmp 14) .skip
  (.exit 0)))
  (.seq (.block 1 (.reg [⟨(some 17), .p .move, [.tmp 7], none⟩,
    ⟨(some 18), .p .move, [.tmp 0], none⟩,
    ⟨(some 19), .p (.bin .mul), [.lit (.int .i64 (-1000)), .tmp 18], none⟩,
    ⟨(some 20), .p .move, [.tmp 8], none⟩,
    ⟨(some 21), .p (.bin .sub), [.tmp 19, .tmp 20], none⟩,
    ⟨(some 22), .p (.bin .sub), [.tmp 21, .lit (.int .i64 1)], none⟩,
    ⟨(some 23), .p (.build [(.int .u64 0), (.int .u64 0), (.int .i64 0), (.int .i64 0)] [(2, 1)]), [.tmp 22], none⟩,
    ⟨(some 24), .a (.buildSlice 4 1 [(.int .u64 0), (.int .u64 0), (.int .i64 0), (.int .i64 0)] [0]), [.tmp 23], none⟩,
    ⟨(some 25), .h (.append 4 false), [.tmp 17, .tmp 24], none⟩,
    ⟨(some 7), .p .move, [.tmp 25], none⟩]))
  (.reg [⟨(some 15), .p .move, [.tmp 8], none⟩,
    ⟨(some 16), .p (.bin .add), [.tmp 15, .lit (.int .i64 1)], none⟩,
    ⟨(some 8), .p .move, [.tmp 16], none⟩]))))))
  (.seq (.reg [⟨(some 26), .p .move, [.tmp 7], none⟩,
    ⟨(some 6), .p .move, [.tmp 26], none⟩])
  .ret)))), [.tmp 6]⟩
theorem c77 : cFunc Go.Proofs.Try.prog false 3 Go.Proofs.Try.f77 = some sf77 := by kernel_rfl

/-- rosary/rosarybook.SameEvent -/
def sf78 : SFunc := ⟨2, 45, (.seq (.reg [⟨(some 2), .a .box, [.tmp 0], none⟩,
    ⟨(some 3), .a .box, [.tmp 1], none⟩,
    ⟨(some 4), .p .move, [.lit (.bool false)], none⟩])
  (.seq (.reg [⟨(some 5), .p (.fieldAddr 0), [.tmp 2], none⟩,
    ⟨(some 6), .r (.load none), [.tmp 5], none⟩,
    ⟨(some 7), .p (.fieldAddr 0), [.tmp 3], none⟩,
    ⟨(some 8), .r (.load none), [.tmp 7], none⟩,
    ⟨(some 9), .p (.bin .eql), [.tmp 6, .tmp 8], none⟩,
    ⟨(some 10), .p .move, [.tmp 9], none⟩,
    ⟨(some 11), .p (.fieldAddr 1), [.tmp 2], some (10, true)⟩,
    ⟨(some 12), .r (.load none), [.tmp 11], some (10, true)⟩,
    ⟨(some 13), .p (.fieldAddr 1), [.tmp 3], some (10, true)⟩,
    ⟨(some 14), .r (.load none), [.tmp 13], some (10, true)⟩,
    ⟨(some 15), .p (.bin .eql), [.tmp 12, .tmp 14], some (10, true)⟩,
    ⟨(some 16), .p .pick, [.tmp 10, .tmp 15, .lit (.bool false)], none⟩,
    ⟨(some 17), .p .move, [.tmp 16], none⟩,
    ⟨(some 18), .p (.fieldAddr 2), [.tmp 2], some (17, true)⟩,
    ⟨(some 19), .r (.load none), [.tmp 18], some (17, true)⟩,
    ⟨(some 20), .p (.fieldAddr 2), [.tmp 3], some (17, true)⟩,
    ⟨(some 21), .r (.load none), [.tmp 20], some (17, true)⟩,
    ⟨(some 22), .p (.bin .eql), [.tmp 19, .tmp 21], some (17, true)⟩,
    ⟨(some 23), .p .pick, [.tmp 17, .tmp 22, .lit (.bool false)], none⟩,
    ⟨(some 24), .p .move, [.tmp 23], none⟩,
    ⟨(some 25), .p (.fieldAddr 3), [.tmp 2], some (24, true)⟩,
    ⟨(some 26), .r (.load none), [.tmp 25], some (24, true)⟩,
    ⟨(some 27), .p (.fieldAddr 3), [.tmp 3], some (24, true)⟩,
    ⟨(some 28), .r (.load none), [.tmp 27], some (24, true)⟩,
    ⟨(some 29), .p (.bin .eql), [.tmp 26, .tmp 28], some (24, true)⟩,
    ⟨(some 30), .p .pick, [.tmp 24, .tmp 29, .lit (.bool false)], none⟩,
    ⟨(some 31), .p .move, [.tmp 30], none⟩,
    ⟨(some 32), .p (.fieldAddr 4), [.tmp 2], some (31, true)⟩,
    ⟨(some 33), .r (.load (some 5)), [.tmp 32], some (31, true)⟩,
    ⟨(some 34), .p (.fieldAddr 4), [.tmp 3], some (31, true)⟩,
    ⟨(some 35), .r (.load (some 5)), [.tmp 34], some (31, true)⟩,
    ⟨(some 36), .p (.eq false (.agg [.int, .str, .str, .str, .int])), [.tmp 33, .tmp 35], some (31, true)⟩,
    ⟨(some 37), .p .pick, [.tmp 31, .tmp 36, .lit (.bool false)], none⟩,
    ⟨(some 38), .p .move, [.tmp 37], none⟩,
    ⟨(some 39), .p (.fieldAddr 9), [.tmp 2], some (38, true)⟩,
    ⟨(some 40), .r (.load (some 6)), [.tmp 39], some (38, true)⟩,
    ⟨(some 41), .p (.fieldAddr 9), [.tmp 3], some (38, true)⟩,
    ⟨(some 42), .r (.load (some 6)), [.tmp 41], some (38, true)⟩,
    ⟨(some 43), .h (.call 23), [.tmp 40, .tmp 42], some (38, true)⟩,
    ⟨(some 44), .p .pick, [.tmp 38, .tmp 43, .lit (.bool false)], none⟩,
    ⟨(some 4), .p .move, [.tmp 44], none⟩])
  .ret)), [.tmp 4]⟩
theorem c78 : cFunc Go.Proofs.Try.prog false 2 Go.Proofs.Try.f78 = some sf78 := by kernel_rfl

/-- rosary/rosarybook.name -/
def sf79 : SFunc := ⟨2, 30, (.seq (.reg [⟨(some 4), .p .move, [.lit (.str [])], none⟩])
  (.seq (.reg [⟨(some 5), .p .move, [.tmp 0], none⟩,
    ⟨(some 6), .p (.bin .rem), [.tmp 5, .lit (.int .i64 26)], none⟩,
    ⟨(some 7), .p (.bin .add), [.lit (.int .i64 65), .tmp 6], none⟩,
    ⟨(some 8), .p (.convInt .u8), [.tmp 7], none⟩,
    ⟨(some 9), .p .move, [.tmp 0], none⟩,
    ⟨(some 10), .p (.bin .quo), [.tmp 9, .lit (.int .i64 26)], none⟩,
    ⟨(some 11), .p (.bin .rem), [.tmp 10, .lit (.int .i64 26)], none⟩,
    ⟨(some 12), .p (.bin .add), [.lit (.int .i64 65), .tmp 11], none⟩,
    ⟨(some 13), .p (.convInt .u8), [.tmp 12], none⟩,
    ⟨(some 14), .p .move, [.tmp 1], none⟩,
    ⟨(some 15), .p (.bin .rem), [.tmp 14, .lit (.int .i64 10)], none⟩,
    ⟨(some 16), .p (.bin .add), [.lit (.int .i64 48), .tmp 15], none⟩,
    ⟨(some 17), .p (.convInt .u8), [.tmp 16], none⟩,
    ⟨(some 18), .p .move, [.tmp 1], none⟩,
    ⟨(some 19), .p (.bin .quo), [.tmp 18, .lit (.int .i64 10)], none⟩,
    ⟨(some 20), .p (.bin .rem), [.tmp 19, .lit (.int .i64 10)], none⟩,
    ⟨(some 21), .p (.bin .add), [.lit (.int .i64 48), .tmp 20], none⟩,
    ⟨(some 22), .p (.convInt .u8), [.tmp 21], none⟩,
    ⟨(some 23), .p .move, [.tmp 1], none⟩,
    ⟨(some 24), .p (.bin .quo), [.tmp 23, .lit (.int .i64 100)], none⟩,
    ⟨(some 25), .p (.bin .rem), [.tmp 24, .lit (.int .i64 10)], none⟩,
    ⟨(some 26), .p (.bin .add), [.lit (.int .i64 48), .tmp 25], none⟩,
    ⟨(some 27), .p (.convInt .u8), [.tmp 26], none⟩,
    ⟨(some 28), .a (.buildSlice 1 6 [(.int .u8 0)] [0, 1, 2, 3, 4, 5]), [.lit (.int .u8 109), .tmp 8, .tmp 13, .tmp 17, .tmp 22, .tmp 27], none⟩,
    ⟨(some 29), .r .toStr, [.tmp 28], none⟩,
    ⟨(some 4), .p .move, [.tmp 29], none⟩])
  .ret)), [.tmp 4]⟩
theorem c79 : cFunc Go.Proofs.Try.prog false 2 Go.Proofs.Try.f79 = some sf79 := by kernel_rfl

def fs : FuncId → Option SFunc
  | 3 => some sf3
  | 4 => some sf4
  | 5 => some sf5
  | 6 => some sf6
  | 7 => some sf7
  | 8 => some sf8
  | 9 => some sf9
  | 10 => some sf10
  | 11 => some sf11
  | 12 => some sf12
  | 13 => some sf13
  | 14 => some sf14
  | 15 => some sf15
  | 16 => some sf16
  | 17 => some sf17
  | 18 => some sf18
  | 19 => some sf19
  | 20 => some sf20
  | 21 => some sf21
  | 22 => some sf22
  | 23 => some sf23
  | 24 => some sf24
  | 25 => some sf25
  | 26 => some sf26
  | 27 => some sf27
  | 28 => some sf28
  | 29 => some sf29
  | 30 => some sf30
  | 31 => some sf31
  | 32 => some sf32
  | 33 => some sf33
  | 34 => some sf34
  | 35 => some sf35
  | 36 => some sf36
  | 37 => some sf37
  | 38 => some sf38
  | 39 => some sf39
  | 40 => some sf40
  | 41 => some sf41
  | 42 => some sf42
  | 43 => some sf43
  | 44 => some sf44
  | 45 => some sf45
  | 46 => some sf46
  | 47 => some sf47
  | 48 => some sf48
  | 49 => some sf49
  | 50 => some sf50
  | 51 => some sf51
  | 52 => some sf52
  | 53 => some sf53
  | 54 => some sf54
  | 55 => some sf55
  | 56 => some sf56
  | 57 => some sf57
  | 58 => some sf58
  | 59 => some sf59
  | 60 => some sf60
  | 61 => some sf61
  | 62 => some sf62
  | 63 => some sf63
  | 64 => some sf64
  | 65 => some sf65
  | 66 => some sf66
  | 67 => some sf67
  | 68 => some sf68
  | 69 => some sf69
  | 70 => some sf70
  | 71 => some sf71
  | 72 => some sf72
  | 73 => some sf73
  | 74 => some sf74
  | 75 => some sf75
  | 76 => some sf76
  | 77 => some sf77
  | 78 => some sf78
  | 79 => some sf79
  | _ => none
theorem fsOk : FsOk Go.Proofs.Try.prog fs := by
  intro f sf h
  unfold fs at h
  split at h
  · cases h; exact ⟨Go.Proofs.Try.f3, _, _, Go.Proofs.Try.func3, c3⟩
  · cases h; exact ⟨Go.Proofs.Try.f4, _, _, Go.Proofs.Try.func4, c4⟩
  · cases h; exact ⟨Go.Proofs.Try.f5, _, _, Go.Proofs.Try.func5, c5⟩
  · cases h; exact ⟨Go.Proofs.Try.f6, _, _, Go.Proofs.Try.func6, c6⟩
  · cases h; exact ⟨Go.Proofs.Try.f7, _, _, Go.Proofs.Try.func7, c7⟩
  · cases h; exact ⟨Go.Proofs.Try.f8, _, _, Go.Proofs.Try.func8, c8⟩
  · cases h; exact ⟨Go.Proofs.Try.f9, _, _, Go.Proofs.Try.func9, c9⟩
  · cases h; exact ⟨Go.Proofs.Try.f10, _, _, Go.Proofs.Try.func10, c10⟩
  · cases h; exact ⟨Go.Proofs.Try.f11, _, _, Go.Proofs.Try.func11, c11⟩
  · cases h; exact ⟨Go.Proofs.Try.f12, _, _, Go.Proofs.Try.func12, c12⟩
  · cases h; exact ⟨Go.Proofs.Try.f13, _, _, Go.Proofs.Try.func13, c13⟩
  · cases h; exact ⟨Go.Proofs.Try.f14, _, _, Go.Proofs.Try.func14, c14⟩
  · cases h; exact ⟨Go.Proofs.Try.f15, _, _, Go.Proofs.Try.func15, c15⟩
  · cases h; exact ⟨Go.Proofs.Try.f16, _, _, Go.Proofs.Try.func16, c16⟩
  · cases h; exact ⟨Go.Proofs.Try.f17, _, _, Go.Proofs.Try.func17, c17⟩
  · cases h; exact ⟨Go.Proofs.Try.f18, _, _, Go.Proofs.Try.func18, c18⟩
  · cases h; exact ⟨Go.Proofs.Try.f19, _, _, Go.Proofs.Try.func19, c19⟩
  · cases h; exact ⟨Go.Proofs.Try.f20, _, _, Go.Proofs.Try.func20, c20⟩
  · cases h; exact ⟨Go.Proofs.Try.f21, _, _, Go.Proofs.Try.func21, c21⟩
  · cases h; exact ⟨Go.Proofs.Try.f22, _, _, Go.Proofs.Try.func22, c22⟩
  · cases h; exact ⟨Go.Proofs.Try.f23, _, _, Go.Proofs.Try.func23, c23⟩
  · cases h; exact ⟨Go.Proofs.Try.f24, _, _, Go.Proofs.Try.func24, c24⟩
  · cases h; exact ⟨Go.Proofs.Try.f25, _, _, Go.Proofs.Try.func25, c25⟩
  · cases h; exact ⟨Go.Proofs.Try.f26, _, _, Go.Proofs.Try.func26, c26⟩
  · cases h; exact ⟨Go.Proofs.Try.f27, _, _, Go.Proofs.Try.func27, c27⟩
  · cases h; exact ⟨Go.Proofs.Try.f28, _, _, Go.Proofs.Try.func28, c28⟩
  · cases h; exact ⟨Go.Proofs.Try.f29, _, _, Go.Proofs.Try.func29, c29⟩
  · cases h; exact ⟨Go.Proofs.Try.f30, _, _, Go.Proofs.Try.func30, c30⟩
  · cases h; exact ⟨Go.Proofs.Try.f31, _, _, Go.Proofs.Try.func31, c31⟩
  · cases h; exact ⟨Go.Proofs.Try.f32, _, _, Go.Proofs.Try.func32, c32⟩
  · cases h; exact ⟨Go.Proofs.Try.f33, _, _, Go.Proofs.Try.func33, c33⟩
  · cases h; exact ⟨Go.Proofs.Try.f34, _, _, Go.Proofs.Try.func34, c34⟩
  · cases h; exact ⟨Go.Proofs.Try.f35, _, _, Go.Proofs.Try.func35, c35⟩
  · cases h; exact ⟨Go.Proofs.Try.f36, _, _, Go.Proofs.Try.func36, c36⟩
  · cases h; exact ⟨Go.Proofs.Try.f37, _, _, Go.Proofs.Try.func37, c37⟩
  · cases h; exact ⟨Go.Proofs.Try.f38, _, _, Go.Proofs.Try.func38, c38⟩
  · cases h; exact ⟨Go.Proofs.Try.f39, _, _, Go.Proofs.Try.func39, c39⟩
  · cases h; exact ⟨Go.Proofs.Try.f40, _, _, Go.Proofs.Try.func40, c40⟩
  · cases h; exact ⟨Go.Proofs.Try.f41, _, _, Go.Proofs.Try.func41, c41⟩
  · cases h; exact ⟨Go.Proofs.Try.f42, _, _, Go.Proofs.Try.func42, c42⟩
  · cases h; exact ⟨Go.Proofs.Try.f43, _, _, Go.Proofs.Try.func43, c43⟩
  · cases h; exact ⟨Go.Proofs.Try.f44, _, _, Go.Proofs.Try.func44, c44⟩
  · cases h; exact ⟨Go.Proofs.Try.f45, _, _, Go.Proofs.Try.func45, c45⟩
  · cases h; exact ⟨Go.Proofs.Try.f46, _, _, Go.Proofs.Try.func46, c46⟩
  · cases h; exact ⟨Go.Proofs.Try.f47, _, _, Go.Proofs.Try.func47, c47⟩
  · cases h; exact ⟨Go.Proofs.Try.f48, _, _, Go.Proofs.Try.func48, c48⟩
  · cases h; exact ⟨Go.Proofs.Try.f49, _, _, Go.Proofs.Try.func49, c49⟩
  · cases h; exact ⟨Go.Proofs.Try.f50, _, _, Go.Proofs.Try.func50, c50⟩
  · cases h; exact ⟨Go.Proofs.Try.f51, _, _, Go.Proofs.Try.func51, c51⟩
  · cases h; exact ⟨Go.Proofs.Try.f52, _, _, Go.Proofs.Try.func52, c52⟩
  · cases h; exact ⟨Go.Proofs.Try.f53, _, _, Go.Proofs.Try.func53, c53⟩
  · cases h; exact ⟨Go.Proofs.Try.f54, _, _, Go.Proofs.Try.func54, c54⟩
  · cases h; exact ⟨Go.Proofs.Try.f55, _, _, Go.Proofs.Try.func55, c55⟩
  · cases h; exact ⟨Go.Proofs.Try.f56, _, _, Go.Proofs.Try.func56, c56⟩
  · cases h; exact ⟨Go.Proofs.Try.f57, _, _, Go.Proofs.Try.func57, c57⟩
  · cases h; exact ⟨Go.Proofs.Try.f58, _, _, Go.Proofs.Try.func58, c58⟩
  · cases h; exact ⟨Go.Proofs.Try.f59, _, _, Go.Proofs.Try.func59, c59⟩
  · cases h; exact ⟨Go.Proofs.Try.f60, _, _, Go.Proofs.Try.func60, c60⟩
  · cases h; exact ⟨Go.Proofs.Try.f61, _, _, Go.Proofs.Try.func61, c61⟩
  · cases h; exact ⟨Go.Proofs.Try.f62, _, _, Go.Proofs.Try.func62, c62⟩
  · cases h; exact ⟨Go.Proofs.Try.f63, _, _, Go.Proofs.Try.func63, c63⟩
  · cases h; exact ⟨Go.Proofs.Try.f64, _, _, Go.Proofs.Try.func64, c64⟩
  · cases h; exact ⟨Go.Proofs.Try.f65, _, _, Go.Proofs.Try.func65, c65⟩
  · cases h; exact ⟨Go.Proofs.Try.f66, _, _, Go.Proofs.Try.func66, c66⟩
  · cases h; exact ⟨Go.Proofs.Try.f67, _, _, Go.Proofs.Try.func67, c67⟩
  · cases h; exact ⟨Go.Proofs.Try.f68, _, _, Go.Proofs.Try.func68, c68⟩
  · cases h; exact ⟨Go.Proofs.Try.f69, _, _, Go.Proofs.Try.func69, c69⟩
  · cases h; exact ⟨Go.Proofs.Try.f70, _, _, Go.Proofs.Try.func70, c70⟩
  · cases h; exact ⟨Go.Proofs.Try.f71, _, _, Go.Proofs.Try.func71, c71⟩
  · cases h; exact ⟨Go.Proofs.Try.f72, _, _, Go.Proofs.Try.func72, c72⟩
  · cases h; exact ⟨Go.Proofs.Try.f73, _, _, Go.Proofs.Try.func73, c73⟩
  · cases h; exact ⟨Go.Proofs.Try.f74, _, _, Go.Proofs.Try.func74, c74⟩
  · cases h; exact ⟨Go.Proofs.Try.f75, _, _, Go.Proofs.Try.func75, c75⟩
  · cases h; exact ⟨Go.Proofs.Try.f76, _, _, Go.Proofs.Try.func76, c76⟩
  · cases h; exact ⟨Go.Proofs.Try.f77, _, _, Go.Proofs.Try.func77, c77⟩
  · cases h; exact ⟨Go.Proofs.Try.f78, _, _, Go.Proofs.Try.func78, c78⟩
  · cases h; exact ⟨Go.Proofs.Try.f79, _, _, Go.Proofs.Try.func79, c79⟩
  · cases h

end Go.Proofs.Ytolnmgekneoaaaa.F
