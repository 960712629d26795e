/- The functions of this seat's program, translated for the engine (printed by wip/eng/dump.lean). -/
import Derived.Test.YtkkjhpcjemcdjaaEngV
import Derived.Test.YtkkjhpcjemcdjaaProg
import Derived.KernelRfl
set_option maxRecDepth 1000000
set_option linter.unusedVariables false
namespace Go.Proofs.Ytkkjhpcjemcdjaa.F
open Go Go.Eng

/-- rosary/rosarylaw13.GateLast -/
def sf3 : SFunc := ⟨5, 97, (.seq (.reg [⟨(some 5), .a .box, [.tmp 0], none⟩,
    ⟨(some 6), .a .box, [.tmp 1], none⟩,
    ⟨(some 10), .p .move, [.lit (.bool false)], none⟩])
  (.seq (.seq (.reg [⟨(some 16), .p .move, [.tmp 3], none⟩,
    ⟨(some 17), .p (.bin .lss), [.tmp 16, .lit (.int .i64 0)], none⟩,
    ⟨(some 18), .p .move, [.tmp 17], none⟩,
    ⟨(some 19), .p .move, [.tmp 3], some (18, false)⟩,
    ⟨(some 20), .p (.bin .gtr), [.tmp 19, .lit (.int .i64 50)], some (18, false)⟩,
    ⟨(some 21), .p .pick, [.tmp 18, .lit (.bool true), .tmp 20], none⟩,
    ⟨(some 22), .p .move, [.tmp 21], none⟩,
    ⟨(some 23), .p .move, [.tmp 4], some (22, false)⟩,
    ⟨(some 24), .p (.bin .lss), [.tmp 23, .lit (.int .i64 0)], some (22, false)⟩,
    ⟨(some 25), .p .pick, [.tmp 22, .lit (.bool true), .tmp 24], none⟩,
    ⟨(some 26), .p .move, [.tmp 25], none⟩,
    ⟨(some 27), .p .move, [.tmp 4], some (26, false)⟩,
    ⟨(some 28), .p (.bin .gtr), [.tmp 27, .lit (.int .i64 50)], some (26, false)⟩,
    ⟨(some 29), .p .pick, [.tmp 26, .lit (.bool true), .tmp 28], none⟩,
    ⟨(some 30), .p .move, [.tmp 29], none⟩,
    ⟨(some 31), .h (.call 7), [], some (30, false)⟩,
    ⟨(some 32), .p .not, [.tmp 31], some (30, false)⟩,
    ⟨(some 33), .p .pick, [.tmp 30, .lit (.bool true), .tmp 32], none⟩])
  (.cond (.tmp 33) (.seq (.reg [⟨(some 34), .h (.call 7), [], none⟩,
    ⟨(some 10), .p .move, [.tmp 34], none⟩])
  .ret)
  .skip))
  (.seq (.reg [⟨(some 35), .p (.build [(.bool false), (.int .u64 0), (.int .u64 0), .nilslice] []), [], none⟩,
    ⟨(some 36), .a .box, [.tmp 35], none⟩,
    ⟨(some 11), .p .move, [.tmp 36], none⟩])
  (.seq (.reg [⟨(some 37), .p .move, [.tmp 11], none⟩,
    ⟨(some 38), .r (.load (some 2)), [.tmp 5], none⟩,
    ⟨(some 39), .h (.call 8), [.tmp 37, .tmp 38, .lit (.int .i64 1)], none⟩])
  (.seq (.seq (.reg [⟨(some 12), .p .move, [.lit (.int .i64 0)], none⟩])
  (.block 0 (.loop [2, 3, 4, 5, 6, 11, 12] (.seq (.seq (.reg [⟨(some 40), .p .move, [.tmp 12], none⟩,
    ⟨(some 41), .p .move, [.tmp 3], none⟩,
    ⟨(some 42), .p (.bin .lss), [.tmp 40, .tmp 41], none⟩])
  (.cond (.tmp 42) .skip
  (.exit 0)))
  (.seq (.block 1 (.reg [⟨(some 45), .p .move, [.tmp 11], none⟩,
    ⟨(some 46), .h (.call 9), [.tmp 45], none⟩]))
  (.reg [⟨(some 43), .p .move, [.tmp 12], none⟩,
    ⟨(some 44), .p (.bin .add), [.tmp 43, .lit (.int .i64 1)], none⟩,
    ⟨(some 12), .p .move, [.tmp 44], none⟩]))))))
  (.seq (.reg [⟨(some 47), .p .move, [.tmp 11], none⟩,
    ⟨(some 48), .r (.load (some 2)), [.tmp 6], none⟩,
    ⟨(some 49), .h (.call 8), [.tmp 47, .tmp 48, .lit (.int .i64 2)], none⟩])
  (.seq (.seq (.reg [⟨(some 13), .p .move, [.lit (.int .i64 0)], none⟩])
  (.block 2 (.loop [2, 3, 4, 5, 6, 11, 13] (.seq (.seq (.reg [⟨(some 50), .p .move, [.tmp 13], none⟩,
    ⟨(some 51), .p .move, [.tmp 4], none⟩,
    ⟨(some 52), .p (.bin .lss), [.tmp 50, .tmp 51], none⟩])
  (.cond (.tmp 52) .skip
  (.exit 2)))
  (.seq (.block 3 (.reg [⟨(some 55), .p .move, [.tmp 11], none⟩,
    ⟨(some 56), .h (.call 9), [.tmp 55], none⟩]))
  (.reg [⟨(some 53), .p .move, [.tmp 13], none⟩,
    ⟨(some 54), .p (.bin .add), [.tmp 53, .lit (.int .i64 1)], none⟩,
    ⟨(some 13), .p .move, [.tmp 54], none⟩]))))))
  (.seq (.reg [⟨(some 58), .p .move, [.tmp 11], none⟩,
    ⟨(some 59), .p .move, [.tmp 2], none⟩,
    ⟨(some 60), .h (.call 10), [.tmp 58, .tmp 59], none⟩,
    ⟨(some 57), .p .move, [.tmp 60], none⟩,
    ⟨(some 61), .p (.extract 0), [.tmp 57], none⟩,
    ⟨(some 62), .p (.extract 1), [.tmp 57], none⟩,
    ⟨(some 14), .p .move, [.tmp 61], none⟩,
    ⟨(some 15), .p .move, [.tmp 62], none⟩])
  (.seq (.block 4 (.seq (.reg [⟨(some 64), .r (.load (some 2)), [.tmp 6], none⟩,
    ⟨(some 65), .p .move, [.tmp 2], none⟩,
    ⟨(some 66), .h (.call 11), [.tmp 64, .tmp 65], none⟩,
    ⟨(some 67), .p .move, [.tmp 66], none⟩,
    ⟨(some 68), .p .move, [.tmp 4], some (67, true)⟩,
    ⟨(some 69), .p (.bin .lss), [.tmp 68, .lit (.int .i64 40)], some (67, true)⟩,
    ⟨(some 70), .p .pick, [.tmp 67, .tmp 69, .lit (.bool false)], none⟩,
    ⟨(some 63), .p .move, [.tmp 70], none⟩])
  (.cond (.tmp 63) (.seq (.reg [⟨(some 71), .p .move, [.tmp 15], none⟩,
    ⟨(some 72), .p .move, [.tmp 71], none⟩,
    ⟨(some 73), .p .move, [.tmp 14], some (72, true)⟩,
    ⟨(some 74), .p (.bin .eql), [.tmp 73, .lit (.int .i64 2)], some (72, true)⟩,
    ⟨(some 75), .p .pick, [.tmp 72, .tmp 74, .lit (.bool false)], none⟩,
    ⟨(some 10), .p .move, [.tmp 75], none⟩])
  .ret)
  (.seq (.reg [⟨(some 77), .r (.load (some 2)), [.tmp 5], none⟩,
    ⟨(some 78), .p .move, [.tmp 2], none⟩,
    ⟨(some 79), .h (.call 11), [.tmp 77, .tmp 78], none⟩,
    ⟨(some 80), .p .move, [.tmp 79], none⟩,
    ⟨(some 81), .p .move, [.tmp 3], some (80, true)⟩,
    ⟨(some 82), .p .move, [.tmp 4], some (80, true)⟩,
    ⟨(some 83), .p (.bin .add), [.tmp 81, .tmp 82], some (80, true)⟩,
    ⟨(some 84), .p (.bin .lss), [.tmp 83, .lit (.int .i64 40)], some (80, true)⟩,
    ⟨(some 85), .p .pick, [.tmp 80, .tmp 84, .lit (.bool false)], none⟩,
    ⟨(some 76), .p .move, [.tmp 85], none⟩])
  (.cond (.tmp 76) (.seq (.reg [⟨(some 86), .p .move, [.tmp 15], none⟩,
    ⟨(some 87), .p .move, [.tmp 86], none⟩,
    ⟨(some 88), .p .move, [.tmp 14], some (87, true)⟩,
    ⟨(some 89), .p (.bin .eql), [.tmp 88, .lit (.int .i64 1)], some (87, true)⟩,
    ⟨(some 90), .p .pick, [.tmp 87, .tmp 89, .lit (.bool false)], none⟩,
    ⟨(some 10), .p .move, [.tmp 90], none⟩])
  .ret)
  .skip)))))
  (.seq (.reg [⟨(some 91), .p .move, [.tmp 15], none⟩,
    ⟨(some 92), .p .not, [.tmp 91], none⟩,
    ⟨(some 93), .p .move, [.tmp 92], none⟩,
    ⟨(some 94), .p .move, [.tmp 14], some (93, true)⟩,
    ⟨(some 95), .p (.bin .eql), [.tmp 94, .lit (.int .i64 0)], some (93, true)⟩,
    ⟨(some 96), .p .pick, [.tmp 93, .tmp 95, .lit (.bool false)], none⟩,
    ⟨(some 10), .p .move, [.tmp 96], none⟩])
  .ret)))))))))), [.tmp 10]⟩
theorem c3 : cFunc Go.Proofs.Try.prog false 5 Go.Proofs.Try.f3 = some sf3 := by kernel_rfl
def ss3 : List Sh := [(.st [(.int .u64), (.int .u64)]), (.st [(.int .u64), (.int .u64)]), (.int .u64), (.int .i64), (.int .i64)]
theorem cs3 : shsOf Go.Proofs.Try.prog 12 Go.Proofs.Try.f3.params.toList = some ss3 := by kernel_rfl

/-- rosary/rosarylaw13.GateShut -/
def sf4 : SFunc := ⟨3, 77, (.seq (.reg [⟨(some 3), .a .box, [.tmp 0], none⟩,
    ⟨(some 4), .a .box, [.tmp 1], none⟩,
    ⟨(some 6), .p .move, [.lit (.bool false)], none⟩])
  (.seq (.seq (.reg [⟨(some 10), .h (.call 7), [], none⟩,
    ⟨(some 11), .p .not, [.tmp 10], none⟩])
  (.cond (.tmp 11) (.seq (.reg [⟨(some 6), .p .move, [.lit (.bool false)], none⟩])
  .ret)
  .skip))
  (.seq (.reg [⟨(some 12), .p (.build [(.bool false), (.int .u64 0), (.int .u64 0), .nilslice] []), [], none⟩,
    ⟨(some 13), .a .box, [.tmp 12], none⟩,
    ⟨(some 7), .p .move, [.tmp 13], none⟩])
  (.seq (.seq (.dreg [⟨[⟨(some 14), .p .move, [.tmp 7], none⟩,
    ⟨(some 15), .p .move, [.tmp 2], none⟩], [], some ⟨(some 16), .h (.call 12), [.tmp 14, .tmp 15], none⟩⟩,
   ⟨[⟨(some 17), .p .move, [.tmp 16], none⟩,
    ⟨(some 18), .p .move, [.tmp 7], some (17, false)⟩,
    ⟨(some 19), .r (.load (some 2)), [.tmp 3], some (17, false)⟩], [], some ⟨(some 20), .h (.call 13), [.tmp 18, .tmp 19], some (17, false)⟩⟩,
   ⟨[⟨(some 21), .p .not, [.tmp 20], some (17, false)⟩,
    ⟨(some 22), .p .pick, [.tmp 17, .lit (.bool true), .tmp 21], none⟩,
    ⟨(some 23), .p .move, [.tmp 22], none⟩,
    ⟨(some 24), .p .move, [.tmp 7], some (23, false)⟩,
    ⟨(some 25), .r (.load (some 2)), [.tmp 4], some (23, false)⟩], [], some ⟨(some 26), .h (.call 13), [.tmp 24, .tmp 25], some (23, false)⟩⟩,
   ⟨[⟨(some 27), .p .pick, [.tmp 23, .lit (.bool true), .tmp 26], none⟩,
    ⟨(some 28), .p .move, [.tmp 27], none⟩,
    ⟨(some 29), .p .move, [.tmp 7], some (28, false)⟩,
    ⟨(some 30), .p .move, [.tmp 2], some (28, false)⟩,
    ⟨(some 32), .r (.load (some 2)), [.tmp 3], some (28, false)⟩,
    ⟨(some 33), .p .move, [.tmp 2], some (28, false)⟩], [], some ⟨(some 31), .h (.call 12), [.tmp 29, .tmp 30], some (28, false)⟩⟩,
   ⟨[], [⟨(some 32), .r (.load (some 2)), [.tmp 3], some (28, false)⟩], some ⟨(some 34), .h (.call 11), [.tmp 32, .tmp 33], some (28, false)⟩⟩,
   ⟨[⟨(some 35), .p (.eq true .bool), [.tmp 31, .tmp 34], some (28, false)⟩,
    ⟨(some 36), .p .pick, [.tmp 28, .lit (.bool true), .tmp 35], none⟩], [], none⟩])
  (.cond (.tmp 36) (.seq (.reg [⟨(some 6), .p .move, [.lit (.bool false)], none⟩])
  .ret)
  .skip))
  (.seq (.reg [⟨(some 38), .p .move, [.tmp 7], none⟩,
    ⟨(some 39), .h (.call 14), [.tmp 38], none⟩,
    ⟨(some 37), .p .move, [.tmp 39], none⟩,
    ⟨(some 40), .p (.extract 0), [.tmp 37], none⟩,
    ⟨(some 41), .p (.extract 1), [.tmp 37], none⟩,
    ⟨(some 8), .a (.alloc [(.int .u64 0), (.int .u64 0)]), [], none⟩,
    ⟨none, .h (.store 2), [.tmp 8, .tmp 40], none⟩,
    ⟨(some 9), .p .move, [.tmp 41], none⟩])
  (.seq (.dreg [⟨[⟨(some 42), .p .move, [.tmp 9], none⟩,
    ⟨(some 43), .p .move, [.tmp 42], none⟩,
    ⟨(some 44), .r (.load (some 2)), [.tmp 8], some (43, true)⟩,
    ⟨(some 45), .r (.load (some 2)), [.tmp 3], some (43, true)⟩,
    ⟨(some 46), .p (.eq false (.agg [.int, .int])), [.tmp 44, .tmp 45], some (43, true)⟩,
    ⟨(some 47), .p .pick, [.tmp 43, .tmp 46, .lit (.bool false)], none⟩,
    ⟨(some 48), .p .move, [.tmp 47], none⟩,
    ⟨(some 49), .p .move, [.tmp 7], some (48, true)⟩], [], some ⟨(some 50), .h (.call 15), [.tmp 49], some (48, true)⟩⟩,
   ⟨[⟨(some 51), .p .pick, [.tmp 48, .tmp 50, .lit (.bool false)], none⟩,
    ⟨(some 52), .p .move, [.tmp 51], none⟩,
    ⟨(some 53), .p .move, [.tmp 7], some (52, true)⟩], [], some ⟨(some 54), .h (.call 15), [.tmp 53], some (52, true)⟩⟩,
   ⟨[⟨(some 55), .p .not, [.tmp 54], some (52, true)⟩,
    ⟨(some 56), .p .pick, [.tmp 52, .tmp 55, .lit (.bool false)], none⟩,
    ⟨(some 57), .p .move, [.tmp 56], none⟩,
    ⟨(some 58), .p .move, [.tmp 7], some (57, true)⟩,
    ⟨(some 59), .p .move, [.tmp 2], some (57, true)⟩], [], some ⟨(some 60), .h (.call 12), [.tmp 58, .tmp 59], some (57, true)⟩⟩,
   ⟨[⟨(some 61), .p .not, [.tmp 60], some (57, true)⟩,
    ⟨(some 62), .p .pick, [.tmp 57, .tmp 61, .lit (.bool false)], none⟩,
    ⟨(some 63), .p .move, [.tmp 62], none⟩,
    ⟨(some 64), .p .move, [.tmp 7], some (63, true)⟩,
    ⟨(some 65), .r (.load (some 2)), [.tmp 4], some (63, true)⟩], [], some ⟨(some 66), .h (.call 13), [.tmp 64, .tmp 65], some (63, true)⟩⟩,
   ⟨[⟨(some 67), .p .pick, [.tmp 63, .tmp 66, .lit (.bool false)], none⟩,
    ⟨(some 68), .p .move, [.tmp 67], none⟩,
    ⟨(some 69), .p .move, [.tmp 7], some (68, true)⟩,
    ⟨(some 70), .p .move, [.tmp 2], some (68, true)⟩,
    ⟨(some 72), .r (.load (some 2)), [.tmp 4], some (68, true)⟩,
    ⟨(some 73), .p .move, [.tmp 2], some (68, true)⟩], [], some ⟨(some 71), .h (.call 12), [.tmp 69, .tmp 70], some (68, true)⟩⟩,
   ⟨[], [⟨(some 72), .r (.load (some 2)), [.tmp 4], some (68, true)⟩], some ⟨(some 74), .h (.call 11), [.tmp 72, .tmp 73], some (68, true)⟩⟩,
   ⟨[⟨(some 75), .p (.eq false .bool), [.tmp 71, .tmp 74], some (68, true)⟩,
    ⟨(some 76), .p .pick, [.tmp 68, .tmp 75, .lit (.bool false)], none⟩,
    ⟨(some 6), .p .move, [.tmp 76], none⟩], [], none⟩])
  .ret)))))), [.tmp 6]⟩
theorem c4 : cFunc Go.Proofs.Try.prog false 3 Go.Proofs.Try.f4 = some sf4 := by kernel_rfl
def ss4 : List Sh := [(.st [(.int .u64), (.int .u64)]), (.st [(.int .u64), (.int .u64)]), (.int .u64)]
theorem cs4 : shsOf Go.Proofs.Try.prog 12 Go.Proofs.Try.f4.params.toList = some ss4 := by kernel_rfl

/-- rosary/rosarylaw13.GateTicks -/
def sf5 : SFunc := ⟨1, 73, (.seq (.reg [⟨(some 2), .p .move, [.lit (.bool false)], none⟩])
  (.seq (.seq (.reg [⟨(some 12), .p .move, [.tmp 0], none⟩,
    ⟨(some 13), .p .lenSl, [.tmp 12], none⟩,
    ⟨(some 14), .p (.bin .gtr), [.tmp 13, .lit (.int .i64 20)], none⟩,
    ⟨(some 15), .p .move, [.tmp 14], none⟩,
    ⟨(some 16), .h (.call 7), [], some (15, false)⟩,
    ⟨(some 17), .p .not, [.tmp 16], some (15, false)⟩,
    ⟨(some 18), .p .pick, [.tmp 15, .lit (.bool true), .tmp 17], none⟩])
  (.cond (.tmp 18) (.seq (.reg [⟨(some 19), .h (.call 7), [], none⟩,
    ⟨(some 2), .p .move, [.tmp 19], none⟩])
  .ret)
  .skip))
  (.seq (.reg [⟨(some 20), .p (.build [(.bool false), (.int .u64 0), (.int .u64 0), .nilslice] []), [], none⟩,
    ⟨(some 21), .a .box, [.tmp 20], none⟩,
    ⟨(some 3), .p .move, [.tmp 21], none⟩])
  (.seq (.reg [⟨(some 4), .p .move, [.lit .nilslice], none⟩])
  (.seq (.seq (.reg [⟨(some 22), .p .move, [.tmp 0], none⟩,
    ⟨(some 23), .p .lenSl, [.tmp 22], none⟩,
    ⟨(some 24), .p .move, [.lit (.int .i64 0)], none⟩])
  (.block 0 (.loop [3, 4, 22, 23, 24] (.seq (.reg [⟨(some 25), .p (.bin .lss), [.tmp 24, .tmp 23], none⟩])
  (.seq (.cond (.tmp 25) .skip
  (.exit 0))
  (.seq (.block 1 (.seq (.reg [⟨(some 26), .p (.indexAddr 1), [.tmp 22, .tmp 24], none⟩,
    ⟨(some 27), .r (.load none), [.tmp 26], none⟩,
    ⟨(some 6), .p .move, [.tmp 27], none⟩])
  (.seq (.reg [⟨(some 28), .p .move, [.tmp 3], none⟩,
    ⟨(some 29), .p (.build [(.int .u64 0), (.int .u64 0)] []), [], none⟩,
    ⟨(some 30), .h (.call 8), [.tmp 28, .tmp 29, .lit (.int .i64 1)], none⟩])
  (.seq (.reg [⟨(some 31), .p .move, [.tmp 4], none⟩,
    ⟨(some 32), .a (.buildSlice 1 1 [(.int .i64 0)] [0]), [.lit (.int .i64 0)], none⟩,
    ⟨(some 33), .h (.append 1 false), [.tmp 31, .tmp 32], none⟩,
    ⟨(some 4), .p .move, [.tmp 33], none⟩])
  (.seq (.seq (.reg [⟨(some 7), .p .move, [.lit (.int .i64 0)], none⟩])
  (.block 2 (.loop [3, 4, 6, 7, 22, 23, 24] (.seq (.seq (.reg [⟨(some 34), .p .move, [.tmp 7], none⟩,
    ⟨(some 35), .p .move, [.tmp 6], none⟩,
    ⟨(some 36), .p (.bin .and), [.tmp 35, .lit (.int .i64 15)], none⟩,
    ⟨(some 37), .p (.bin .lss), [.tmp 34, .tmp 36], none⟩])
  (.cond (.tmp 37) .skip
  (.exit 2)))
  (.seq (.block 3 (.seq (.reg [⟨(some 40), .p .move, [.tmp 3], none⟩,
    ⟨(some 41), .h (.call 9), [.tmp 40], none⟩])
  (.seq (.reg [⟨(some 8), .p .move, [.lit .nilslice], none⟩])
  (.seq (.seq (.reg [⟨(some 42), .p .move, [.tmp 4], none⟩,
    ⟨(some 43), .p .lenSl, [.tmp 42], none⟩,
    ⟨(some 44), .p .move, [.lit (.int .i64 0)], none⟩])
  (.block 4 (.loop [3, 6, 7, 8, 22, 23, 24, 42, 43, 44] (.seq (.reg [⟨(some 45), .p (.bin .lss), [.tmp 44, .tmp 43], none⟩])
  (.seq (.cond (.tmp 45) .skip
  (.exit 4))
  (.seq (.block 5 (.seq (.reg [⟨(some 46), .p (.indexAddr 1), [.tmp 42, .tmp 44], none⟩,
    ⟨(some 47), .r (.load none), [.tmp 46], none⟩,
    ⟨(some 10), .p .move, [.tmp 47], none⟩])
  (.seq (.reg [⟨(some 48), .p .move, [.tmp 10], none⟩,
    ⟨(some 49), .p (.bin .add), [.tmp 48, .lit (.int .i64 1)], none⟩,
    ⟨(some 50), .p (.bin .lss), [.tmp 49, .lit (.int .i64 40)], none⟩])
  (.cond (.tmp 50) (.reg [⟨(some 51), .p .move, [.tmp 8], none⟩,
    ⟨(some 52), .p .move, [.tmp 10], none⟩,
    ⟨(some 53), .p (.bin .add), [.tmp 52, .lit (.int .i64 1)], none⟩,
    ⟨(some 54), .a (.buildSlice 1 1 [(.int .i64 0)] [0]), [.tmp 53], none⟩,
    ⟨(some 55), .h (.append 1 false), [.tmp 51, .tmp 54], none⟩,
    ⟨(some 8), .p .move, [.tmp 55], none⟩])
  .skip))))
  (.reg [⟨(some 56), .p (.bin .add), [.tmp 44, .lit (.int .i64 1)], none⟩,
    ⟨(some 44), .p .move, [.tmp 56], none⟩])))))))
  (.reg [⟨(some 57), .p .move, [.tmp 8], none⟩,
    ⟨(some 4), .p .move, [.tmp 57], none⟩])))))
  (.reg [⟨(some 38), .p .move, [.tmp 7], none⟩,
    ⟨(some 39), .p (.bin .add), [.tmp 38, .lit (.int .i64 1)], none⟩,
    ⟨(some 7), .p .move, [.tmp 39], none⟩]))))))
  (.seq (.reg [⟨(some 58), .p .move, [.tmp 3], none⟩,
    ⟨(some 59), .h (.call 16), [.tmp 58], none⟩,
    ⟨(some 60), .p .move, [.tmp 4], none⟩,
    ⟨(some 61), .p .lenSl, [.tmp 60], none⟩,
    ⟨(some 62), .p (.bin .neq), [.tmp 59, .tmp 61], none⟩])
  (.cond (.tmp 62) (.seq (.reg [⟨(some 2), .p .move, [.lit (.bool false)], none⟩])
  .ret)
  .skip)))))))
  (.reg [⟨(some 63), .p (.bin .add), [.tmp 24, .lit (.int .i64 1)], none⟩,
    ⟨(some 24), .p .move, [.tmp 63], none⟩])))))))
  (.seq (.seq (.reg [⟨(some 11), .p .move, [.lit (.int .i64 0)], none⟩])
  (.block 6 (.loop [3, 11] (.seq (.seq (.reg [⟨(some 64), .p .move, [.tmp 11], none⟩,
    ⟨(some 65), .p (.bin .lss), [.tmp 64, .lit (.int .i64 40)], none⟩])
  (.cond (.tmp 65) .skip
  (.exit 6)))
  (.seq (.block 7 (.reg [⟨(some 68), .p .move, [.tmp 3], none⟩,
    ⟨(some 69), .h (.call 9), [.tmp 68], none⟩]))
  (.reg [⟨(some 66), .p .move, [.tmp 11], none⟩,
    ⟨(some 67), .p (.bin .add), [.tmp 66, .lit (.int .i64 1)], none⟩,
    ⟨(some 11), .p .move, [.tmp 67], none⟩]))))))
  (.seq (.reg [⟨(some 70), .p .move, [.tmp 3], none⟩,
    ⟨(some 71), .h (.call 16), [.tmp 70], none⟩,
    ⟨(some 72), .p (.bin .eql), [.tmp 71, .lit (.int .i64 0)], none⟩,
    ⟨(some 2), .p .move, [.tmp 72], none⟩])
  .ret))))))), [.tmp 2]⟩
theorem c5 : cFunc Go.Proofs.Try.prog false 1 Go.Proofs.Try.f5 = some sf5 := by kernel_rfl
def ss5 : List Sh := [(.sl 8 (.int .i64))]
theorem cs5 : shsOf Go.Proofs.Try.prog 12 Go.Proofs.Try.f5.params.toList = some ss5 := by kernel_rfl

/-- rosary/rosarylaw13.GatePlays -/
def sf6 : SFunc := ⟨2, 243, (.seq (.reg [⟨(some 4), .p .move, [.lit (.bool false)], none⟩])
  (.seq (.seq (.reg [⟨(some 23), .p .move, [.tmp 0], none⟩,
    ⟨(some 24), .p .lenSl, [.tmp 23], none⟩,
    ⟨(some 25), .p (.bin .gtr), [.tmp 24, .lit (.int .i64 80)], none⟩,
    ⟨(some 26), .p .move, [.tmp 25], none⟩,
    ⟨(some 27), .h (.call 7), [], some (26, false)⟩,
    ⟨(some 28), .p .not, [.tmp 27], some (26, false)⟩,
    ⟨(some 29), .p .pick, [.tmp 26, .lit (.bool true), .tmp 28], none⟩])
  (.cond (.tmp 29) (.seq (.reg [⟨(some 30), .h (.call 7), [], none⟩,
    ⟨(some 4), .p .move, [.tmp 30], none⟩])
  .ret)
  .skip))
  (.seq (.reg [⟨(some 31), .p (.build [(.bool false), (.int .u64 0), (.int .u64 0), .nilslice] []), [], none⟩,
    ⟨(some 32), .a .box, [.tmp 31], none⟩,
    ⟨(some 33), .p (.build [(.bool false), (.int .u64 0), (.int .u64 0), .nilslice] []), [], none⟩,
    ⟨(some 34), .a .box, [.tmp 33], none⟩,
    ⟨(some 5), .p .move, [.tmp 32], none⟩,
    ⟨(some 6), .p .move, [.tmp 34], none⟩])
  (.seq (.seq (.reg [⟨(some 7), .p .move, [.lit (.int .i64 0)], none⟩])
  (.block 0 (.loop [0, 1, 5, 6, 7] (.seq (.seq (.reg [⟨(some 35), .p .move, [.tmp 7], none⟩,
    ⟨(some 36), .p .move, [.tmp 0], none⟩,
    ⟨(some 37), .p .lenSl, [.tmp 36], none⟩,
    ⟨(some 38), .p (.bin .lss), [.tmp 35, .tmp 37], none⟩])
  (.cond (.tmp 38) .skip
  (.exit 0)))
  (.seq (.block 1 (.seq (.reg [⟨(some 41), .p .move, [.tmp 0], none⟩,
    ⟨(some 42), .p .move, [.tmp 7], none⟩,
    ⟨(some 43), .p (.indexAddr 5), [.tmp 41, .tmp 42], none⟩,
    ⟨(some 44), .r (.load (some 5)), [.tmp 43], none⟩,
    ⟨(some 8), .a (.alloc [(.int .i64 0), (.int .i64 0), (.int .i64 0), (.int .u64 0), (.int .u64 0)]), [], none⟩,
    ⟨none, .h (.store 5), [.tmp 8, .tmp 44], none⟩])
  (.seq (.seq (.reg [⟨(some 45), .p (.fieldAddr 0), [.tmp 8], none⟩,
    ⟨(some 46), .r (.load none), [.tmp 45], none⟩])
  (.block 2 (.seq (.reg [⟨(some 48), .p (.bin .eql), [.tmp 46, .lit (.int .i64 1)], none⟩,
    ⟨(some 47), .p .move, [.tmp 48], none⟩])
  (.cond (.tmp 47) (.seq (.seq (.dreg [⟨[⟨(some 49), .p .move, [.tmp 5], none⟩,
    ⟨(some 50), .p (.fieldAddr 3), [.tmp 8], none⟩,
    ⟨(some 51), .r (.load (some 2)), [.tmp 50], none⟩,
    ⟨(some 53), .p .move, [.tmp 6], none⟩,
    ⟨(some 54), .p .nilCheck, [.tmp 53], none⟩,
    ⟨(some 55), .p (.fieldAddr 0), [.tmp 54], none⟩,
    ⟨(some 56), .r (.load none), [.tmp 55], none⟩], [], some ⟨(some 52), .h (.call 13), [.tmp 49, .tmp 51], none⟩⟩,
   ⟨[⟨(some 57), .p (.eq false .bool), [.tmp 52, .tmp 56], none⟩], [⟨(some 56), .r (.load none), [.tmp 55], none⟩], none⟩])
  (.cond (.tmp 57) (.seq (.reg [⟨(some 4), .p .move, [.lit (.bool false)], none⟩])
  .ret)
  .skip))
  (.seq (.reg [⟨(some 58), .p .move, [.tmp 6], none⟩,
    ⟨(some 59), .p .nilCheck, [.tmp 58], none⟩,
    ⟨(some 60), .p (.fieldAddr 0), [.tmp 59], none⟩,
    ⟨(some 61), .r (.load none), [.tmp 60], none⟩,
    ⟨(some 62), .p .not, [.tmp 61], none⟩])
  (.cond (.tmp 62) (.dreg [⟨[⟨(some 63), .p .move, [.tmp 6], none⟩,
    ⟨(some 64), .p .move, [.tmp 6], none⟩,
    ⟨(some 65), .p (.fieldAddr 3), [.tmp 8], none⟩,
    ⟨(some 66), .r (.load (some 2)), [.tmp 65], none⟩,
    ⟨(some 67), .p .nilCheck, [.tmp 63], none⟩,
    ⟨(some 68), .p (.fieldAddr 0), [.tmp 67], none⟩], [], some ⟨none, .h (.store 1), [.tmp 68, .lit (.bool true)], none⟩⟩,
   ⟨[⟨(some 69), .p .nilCheck, [.tmp 64], none⟩,
    ⟨(some 70), .p (.fieldAddr 1), [.tmp 69], none⟩], [⟨(some 66), .r (.load (some 2)), [.tmp 65], none⟩], some ⟨none, .h (.store 2), [.tmp 70, .tmp 66], none⟩⟩,
   ⟨[], [], none⟩])
  .skip)))
  (.seq (.reg [⟨(some 72), .p (.bin .eql), [.tmp 46, .lit (.int .i64 2)], none⟩,
    ⟨(some 71), .p .move, [.tmp 72], none⟩])
  (.cond (.tmp 71) (.seq (.seq (.dreg [⟨[⟨(some 73), .p .move, [.tmp 5], none⟩,
    ⟨(some 75), .p .move, [.tmp 6], none⟩,
    ⟨(some 76), .p .nilCheck, [.tmp 75], none⟩,
    ⟨(some 77), .p (.fieldAddr 0), [.tmp 76], none⟩,
    ⟨(some 78), .r (.load none), [.tmp 77], none⟩], [], some ⟨(some 74), .h (.call 15), [.tmp 73], none⟩⟩,
   ⟨[⟨(some 79), .p (.eq true .bool), [.tmp 74, .tmp 78], none⟩], [⟨(some 78), .r (.load none), [.tmp 77], none⟩], none⟩])
  (.cond (.tmp 79) (.seq (.reg [⟨(some 4), .p .move, [.lit (.bool false)], none⟩])
  .ret)
  .skip))
  (.reg [⟨(some 80), .p .move, [.tmp 6], none⟩,
    ⟨(some 81), .p .nilCheck, [.tmp 80], none⟩,
    ⟨(some 82), .p (.fieldAddr 0), [.tmp 81], none⟩,
    ⟨none, .h (.store 1), [.tmp 82, .lit (.bool false)], none⟩]))
  (.seq (.reg [⟨(some 84), .p (.bin .eql), [.tmp 46, .lit (.int .i64 3)], none⟩,
    ⟨(some 83), .p .move, [.tmp 84], none⟩])
  (.cond (.tmp 83) (.seq (.reg [⟨(some 85), .p .move, [.tmp 5], none⟩,
    ⟨(some 86), .p (.fieldAddr 3), [.tmp 8], none⟩,
    ⟨(some 87), .r (.load (some 2)), [.tmp 86], none⟩,
    ⟨(some 88), .p (.fieldAddr 1), [.tmp 8], none⟩,
    ⟨(some 89), .r (.load none), [.tmp 88], none⟩,
    ⟨(some 90), .h (.call 8), [.tmp 85, .tmp 87, .tmp 89], none⟩])
  (.reg [⟨(some 91), .p .move, [.tmp 6], none⟩,
    ⟨(some 92), .p (.fieldAddr 3), [.tmp 8], none⟩,
    ⟨(some 93), .r (.load (some 2)), [.tmp 92], none⟩,
    ⟨(some 94), .p (.fieldAddr 1), [.tmp 8], none⟩,
    ⟨(some 95), .r (.load none), [.tmp 94], none⟩,
    ⟨(some 96), .h (.call 17), [.tmp 91, .tmp 93, .tmp 95], none⟩]))
  (.seq (.reg [⟨(some 98), .p (.bin .eql), [.tmp 46, .lit (.int .i64 4)], none⟩,
    ⟨(some 97), .p .move, [.tmp 98], none⟩])
  (.cond (.tmp 97) (.seq (.reg [⟨(some 9), .p .move, [.lit (.int .i64 0)], none⟩])
  (.block 3 (.loop [0, 1, 5, 6, 7, 8, 9] (.seq (.seq (.reg [⟨(some 99), .p .move, [.tmp 9], none⟩,
    ⟨(some 100), .p (.fieldAddr 2), [.tmp 8], none⟩,
    ⟨(some 101), .r (.load none), [.tmp 100], none⟩,
    ⟨(some 102), .p (.bin .lss), [.tmp 99, .tmp 101], none⟩,
    ⟨(some 103), .p .move, [.tmp 102], none⟩,
    ⟨(some 104), .p .move, [.tmp 9], some (103, true)⟩,
    ⟨(some 105), .p (.bin .lss), [.tmp 104, .lit (.int .i64 60)], some (103, true)⟩,
    ⟨(some 106), .p .pick, [.tmp 103, .tmp 105, .lit (.bool false)], none⟩])
  (.cond (.tmp 106) .skip
  (.exit 3)))
  (.seq (.block 4 (.seq (.reg [⟨(some 109), .p .move, [.tmp 5], none⟩,
    ⟨(some 110), .h (.call 9), [.tmp 109], none⟩])
  (.reg [⟨(some 111), .p .move, [.tmp 6], none⟩,
    ⟨(some 112), .h (.call 18), [.tmp 111], none⟩])))
  (.reg [⟨(some 107), .p .move, [.tmp 9], none⟩,
    ⟨(some 108), .p (.bin .add), [.tmp 107, .lit (.int .i64 1)], none⟩,
    ⟨(some 9), .p .move, [.tmp 108], none⟩]))))))
  .skip))))))))))
  (.seq (.reg [⟨(some 114), .p .move, [.tmp 5], none⟩,
    ⟨(some 115), .h (.call 14), [.tmp 114], none⟩,
    ⟨(some 113), .p .move, [.tmp 115], none⟩,
    ⟨(some 116), .p (.extract 0), [.tmp 113], none⟩,
    ⟨(some 117), .p (.extract 1), [.tmp 113], none⟩,
    ⟨(some 10), .a (.alloc [(.int .u64 0), (.int .u64 0)]), [], none⟩,
    ⟨none, .h (.store 2), [.tmp 10, .tmp 116], none⟩,
    ⟨(some 11), .p .move, [.tmp 117], none⟩])
  (.seq (.seq (.dreg [⟨[⟨(some 118), .p .move, [.tmp 11], none⟩,
    ⟨(some 119), .p .move, [.tmp 6], none⟩,
    ⟨(some 120), .p .nilCheck, [.tmp 119], none⟩,
    ⟨(some 121), .p (.fieldAddr 0), [.tmp 120], none⟩,
    ⟨(some 122), .r (.load none), [.tmp 121], none⟩,
    ⟨(some 123), .p (.eq true .bool), [.tmp 118, .tmp 122], none⟩,
    ⟨(some 124), .p .move, [.tmp 123], none⟩,
    ⟨(some 125), .p .move, [.tmp 11], some (124, false)⟩,
    ⟨(some 126), .p .move, [.tmp 125], some (124, false)⟩,
    ⟨(some 127), .r (.load (some 2)), [.tmp 10], some (126, true)⟩,
    ⟨(some 128), .p .move, [.tmp 6], some (126, true)⟩,
    ⟨(some 129), .p .nilCheck, [.tmp 128], some (126, true)⟩,
    ⟨(some 130), .p (.fieldAddr 1), [.tmp 129], some (126, true)⟩,
    ⟨(some 131), .r (.load (some 2)), [.tmp 130], some (126, true)⟩,
    ⟨(some 132), .p (.eq true (.agg [.int, .int])), [.tmp 127, .tmp 131], some (126, true)⟩,
    ⟨(some 133), .p .pick, [.tmp 126, .tmp 132, .lit (.bool false)], some (124, false)⟩,
    ⟨(some 134), .p .pick, [.tmp 124, .lit (.bool true), .tmp 133], none⟩,
    ⟨(some 135), .p .move, [.tmp 134], none⟩,
    ⟨(some 136), .p .move, [.tmp 11], some (135, false)⟩,
    ⟨(some 137), .p .not, [.tmp 136], some (135, false)⟩,
    ⟨(some 138), .p .move, [.tmp 137], some (135, false)⟩,
    ⟨(some 139), .r (.load (some 2)), [.tmp 10], some (138, true)⟩,
    ⟨(some 140), .p (.build [(.int .u64 0), (.int .u64 0)] []), [], some (138, true)⟩,
    ⟨(some 141), .p (.eq true (.agg [.int, .int])), [.tmp 139, .tmp 140], some (138, true)⟩,
    ⟨(some 142), .p .pick, [.tmp 138, .tmp 141, .lit (.bool false)], some (135, false)⟩,
    ⟨(some 143), .p .pick, [.tmp 135, .lit (.bool true), .tmp 142], none⟩,
    ⟨(some 144), .p .move, [.tmp 143], none⟩,
    ⟨(some 145), .p .move, [.tmp 5], some (144, false)⟩,
    ⟨(some 147), .p .move, [.tmp 6], some (144, false)⟩,
    ⟨(some 148), .p .nilCheck, [.tmp 147], some (144, false)⟩,
    ⟨(some 149), .p (.fieldAddr 3), [.tmp 148], some (144, false)⟩,
    ⟨(some 150), .r (.load none), [.tmp 149], some (144, false)⟩,
    ⟨(some 151), .p .lenSl, [.tmp 150], some (144, false)⟩], [], some ⟨(some 146), .h (.call 16), [.tmp 145], some (144, false)⟩⟩,
   ⟨[⟨(some 152), .p (.bin .neq), [.tmp 146, .tmp 151], some (144, false)⟩,
    ⟨(some 153), .p .pick, [.tmp 144, .lit (.bool true), .tmp 152], none⟩], [⟨(some 150), .r (.load none), [.tmp 149], some (144, false)⟩], none⟩])
  (.cond (.tmp 153) (.seq (.reg [⟨(some 4), .p .move, [.lit (.bool false)], none⟩])
  .ret)
  .skip))
  (.seq (.reg [⟨(some 154), .p .move, [.tmp 1], none⟩,
    ⟨(some 155), .p (.fieldAddr 3), [.tmp 8], none⟩,
    ⟨(some 156), .p (.fieldAddr 0), [.tmp 155], none⟩,
    ⟨(some 157), .r (.load none), [.tmp 156], none⟩,
    ⟨(some 158), .p (.fieldAddr 3), [.tmp 8], none⟩,
    ⟨(some 159), .p (.fieldAddr 1), [.tmp 158], none⟩,
    ⟨(some 160), .r (.load none), [.tmp 159], none⟩,
    ⟨(some 161), .p (.fieldAddr 3), [.tmp 8], none⟩,
    ⟨(some 162), .p (.fieldAddr 1), [.tmp 161], none⟩,
    ⟨(some 163), .r (.load none), [.tmp 162], none⟩,
    ⟨(some 164), .p (.bin .sub), [.tmp 163, .lit (.int .u64 1)], none⟩,
    ⟨(some 165), .a (.buildSlice 1 4 [(.int .u64 0)] [0, 1, 2, 3]), [.tmp 154, .tmp 157, .tmp 160, .tmp 164], none⟩,
    ⟨(some 166), .p .lenSl, [.tmp 165], none⟩,
    ⟨(some 167), .p .move, [.lit (.int .i64 0)], none⟩])
  (.block 5 (.loop [0, 1, 5, 6, 7, 165, 166, 167] (.seq (.reg [⟨(some 168), .p (.bin .lss), [.tmp 167, .tmp 166], none⟩])
  (.seq (.cond (.tmp 168) .skip
  (.exit 5))
  (.seq (.block 6 (.seq (.reg [⟨(some 169), .p (.indexAddr 1), [.tmp 165, .tmp 167], none⟩,
    ⟨(some 170), .r (.load none), [.tmp 169], none⟩,
    ⟨(some 13), .p .move, [.tmp 170], none⟩])
  (.seq (.reg [⟨(some 172), .p .move, [.tmp 5], none⟩,
    ⟨(some 173), .p .move, [.tmp 13], none⟩,
    ⟨(some 174), .h (.call 10), [.tmp 172, .tmp 173], none⟩,
    ⟨(some 171), .p .move, [.tmp 174], none⟩,
    ⟨(some 175), .p (.extract 0), [.tmp 171], none⟩,
    ⟨(some 176), .p (.extract 1), [.tmp 171], none⟩,
    ⟨(some 14), .p .move, [.tmp 175], none⟩,
    ⟨(some 15), .p .move, [.tmp 176], none⟩])
  (.seq (.reg [⟨(some 178), .p .move, [.tmp 6], none⟩,
    ⟨(some 179), .p .move, [.tmp 13], none⟩,
    ⟨(some 180), .h (.call 19), [.tmp 178, .tmp 179], none⟩,
    ⟨(some 177), .p .move, [.tmp 180], none⟩,
    ⟨(some 181), .p (.extract 0), [.tmp 177], none⟩,
    ⟨(some 182), .p (.extract 1), [.tmp 177], none⟩,
    ⟨(some 16), .p .move, [.tmp 181], none⟩,
    ⟨(some 17), .p .move, [.tmp 182], none⟩])
  (.seq (.reg [⟨(some 183), .p .move, [.tmp 5], none⟩,
    ⟨(some 184), .p .move, [.tmp 13], none⟩,
    ⟨(some 185), .h (.call 12), [.tmp 183, .tmp 184], none⟩,
    ⟨(some 186), .p .move, [.tmp 6], none⟩,
    ⟨(some 187), .p .move, [.tmp 13], none⟩,
    ⟨(some 188), .h (.call 20), [.tmp 186, .tmp 187], none⟩,
    ⟨(some 189), .p (.eq true .bool), [.tmp 185, .tmp 188], none⟩,
    ⟨(some 190), .p .move, [.tmp 189], none⟩,
    ⟨(some 191), .p .move, [.tmp 14], some (190, false)⟩,
    ⟨(some 192), .p .move, [.tmp 16], some (190, false)⟩,
    ⟨(some 193), .p (.bin .neq), [.tmp 191, .tmp 192], some (190, false)⟩,
    ⟨(some 194), .p .pick, [.tmp 190, .lit (.bool true), .tmp 193], none⟩,
    ⟨(some 195), .p .move, [.tmp 194], none⟩,
    ⟨(some 196), .p .move, [.tmp 15], some (195, false)⟩,
    ⟨(some 197), .p .move, [.tmp 17], some (195, false)⟩,
    ⟨(some 198), .p (.eq true .bool), [.tmp 196, .tmp 197], some (195, false)⟩,
    ⟨(some 199), .p .pick, [.tmp 195, .lit (.bool true), .tmp 198], none⟩])
  (.cond (.tmp 199) (.seq (.reg [⟨(some 4), .p .move, [.lit (.bool false)], none⟩])
  .ret)
  .skip))))))
  (.reg [⟨(some 200), .p (.bin .add), [.tmp 167, .lit (.int .i64 1)], none⟩,
    ⟨(some 167), .p .move, [.tmp 200], none⟩]))))))))))))
  (.reg [⟨(some 39), .p .move, [.tmp 7], none⟩,
    ⟨(some 40), .p (.bin .add), [.tmp 39, .lit (.int .i64 1)], none⟩,
    ⟨(some 7), .p .move, [.tmp 40], none⟩]))))))
  (.seq (.reg [⟨(some 18), .p .move, [.lit .nilptr], none⟩])
  (.seq (.reg [⟨(some 201), .p .move, [.tmp 18], none⟩,
    ⟨(some 202), .p (.build [(.int .u64 0), (.int .u64 0)] []), [], none⟩,
    ⟨(some 203), .h (.call 8), [.tmp 201, .tmp 202, .lit (.int .i64 1)], none⟩])
  (.seq (.reg [⟨(some 204), .p .move, [.tmp 18], none⟩,
    ⟨(some 205), .h (.call 9), [.tmp 204], none⟩])
  (.seq (.reg [⟨(some 207), .p .move, [.tmp 18], none⟩,
    ⟨(some 208), .h (.call 14), [.tmp 207], none⟩,
    ⟨(some 206), .p .move, [.tmp 208], none⟩,
    ⟨(some 209), .p (.extract 0), [.tmp 206], none⟩,
    ⟨(some 210), .p (.extract 1), [.tmp 206], none⟩,
    ⟨(some 19), .a (.alloc [(.int .u64 0), (.int .u64 0)]), [], none⟩,
    ⟨none, .h (.store 2), [.tmp 19, .tmp 209], none⟩,
    ⟨(some 20), .p .move, [.tmp 210], none⟩])
  (.seq (.reg [⟨(some 212), .p .move, [.tmp 18], none⟩,
    ⟨(some 213), .h (.call 10), [.tmp 212, .lit (.int .u64 0)], none⟩,
    ⟨(some 211), .p .move, [.tmp 213], none⟩,
    ⟨(some 214), .p (.extract 0), [.tmp 211], none⟩,
    ⟨(some 215), .p (.extract 1), [.tmp 211], none⟩,
    ⟨(some 21), .p .move, [.tmp 214], none⟩,
    ⟨(some 22), .p .move, [.tmp 215], none⟩])
  (.seq (.reg [⟨(some 216), .p .move, [.tmp 18], none⟩,
    ⟨(some 217), .p (.build [(.int .u64 0), (.int .u64 0)] []), [], none⟩,
    ⟨(some 218), .h (.call 13), [.tmp 216, .tmp 217], none⟩,
    ⟨(some 219), .p .not, [.tmp 218], none⟩,
    ⟨(some 220), .p .move, [.tmp 219], none⟩,
    ⟨(some 221), .p .move, [.tmp 18], some (220, true)⟩,
    ⟨(some 222), .h (.call 15), [.tmp 221], some (220, true)⟩,
    ⟨(some 223), .p .not, [.tmp 222], some (220, true)⟩,
    ⟨(some 224), .p .pick, [.tmp 220, .tmp 223, .lit (.bool false)], none⟩,
    ⟨(some 225), .p .move, [.tmp 224], none⟩,
    ⟨(some 226), .p .move, [.tmp 18], some (225, true)⟩,
    ⟨(some 227), .h (.call 12), [.tmp 226, .lit (.int .u64 0)], some (225, true)⟩,
    ⟨(some 228), .p .not, [.tmp 227], some (225, true)⟩,
    ⟨(some 229), .p .pick, [.tmp 225, .tmp 228, .lit (.bool false)], none⟩,
    ⟨(some 230), .p .move, [.tmp 229], none⟩,
    ⟨(some 231), .p .move, [.tmp 20], some (230, true)⟩,
    ⟨(some 232), .p .not, [.tmp 231], some (230, true)⟩,
    ⟨(some 233), .p .pick, [.tmp 230, .tmp 232, .lit (.bool false)], none⟩,
    ⟨(some 234), .p .move, [.tmp 233], none⟩,
    ⟨(some 235), .p .move, [.tmp 22], some (234, true)⟩,
    ⟨(some 236), .p .not, [.tmp 235], some (234, true)⟩,
    ⟨(some 237), .p .pick, [.tmp 234, .tmp 236, .lit (.bool false)], none⟩,
    ⟨(some 238), .p .move, [.tmp 237], none⟩,
    ⟨(some 239), .p .move, [.tmp 18], some (238, true)⟩,
    ⟨(some 240), .h (.call 16), [.tmp 239], some (238, true)⟩,
    ⟨(some 241), .p (.bin .eql), [.tmp 240, .lit (.int .i64 0)], some (238, true)⟩,
    ⟨(some 242), .p .pick, [.tmp 238, .tmp 241, .lit (.bool false)], none⟩,
    ⟨(some 4), .p .move, [.tmp 242], none⟩])
  .ret)))))))))), [.tmp 4]⟩
theorem c6 : cFunc Go.Proofs.Try.prog false 2 Go.Proofs.Try.f6 = some sf6 := by kernel_rfl
def ss6 : List Sh := [(.sl 40 (.st [(.int .i64), (.int .i64), (.int .i64), (.st [(.int .u64), (.int .u64)])])), (.int .u64)]
theorem cs6 : shsOf Go.Proofs.Try.prog 12 Go.Proofs.Try.f6.params.toList = some ss6 := by kernel_rfl

/-- rosary/rosarylaw13.alive -/
def sf7 : SFunc := ⟨0, 56, (.seq (.reg [⟨(some 0), .p .move, [.lit (.bool false)], none⟩])
  (.seq (.reg [⟨(some 7), .p (.build [(.bool false), (.int .u64 0), (.int .u64 0), .nilslice] []), [], none⟩,
    ⟨(some 8), .a .box, [.tmp 7], none⟩,
    ⟨(some 1), .p .move, [.tmp 8], none⟩])
  (.seq (.reg [⟨(some 9), .p .move, [.tmp 1], none⟩,
    ⟨(some 10), .p (.build [(.int .u64 0), (.int .u64 0)] [(0, 1), (1, 1)]), [.lit (.int .u64 0), .lit (.int .u64 9)], none⟩,
    ⟨(some 11), .h (.call 8), [.tmp 9, .tmp 10, .lit (.int .i64 3)], none⟩])
  (.seq (.reg [⟨(some 13), .p .move, [.tmp 1], none⟩,
    ⟨(some 14), .h (.call 10), [.tmp 13, .lit (.int .u64 1)], none⟩,
    ⟨(some 12), .p .move, [.tmp 14], none⟩,
    ⟨(some 15), .p (.extract 0), [.tmp 12], none⟩,
    ⟨(some 16), .p (.extract 1), [.tmp 12], none⟩,
    ⟨(some 2), .p .move, [.tmp 15], none⟩,
    ⟨(some 3), .p .move, [.tmp 16], none⟩])
  (.seq (.seq (.reg [⟨(some 4), .p .move, [.lit (.int .i64 0)], none⟩])
  (.block 0 (.loop [1, 2, 3, 4] (.seq (.seq (.reg [⟨(some 17), .p .move, [.tmp 4], none⟩,
    ⟨(some 18), .p (.bin .lss), [.tmp 17, .lit (.int .i64 40)], none⟩])
  (.cond (.tmp 18) .skip
  (.exit 0)))
  (.seq (.block 1 (.reg [⟨(some 21), .p .move, [.tmp 1], none⟩,
    ⟨(some 22), .h (.call 9), [.tmp 21], none⟩]))
  (.reg [⟨(some 19), .p .move, [.tmp 4], none⟩,
    ⟨(some 20), .p (.bin .add), [.tmp 19, .lit (.int .i64 1)], none⟩,
    ⟨(some 4), .p .move, [.tmp 20], none⟩]))))))
  (.seq (.reg [⟨(some 24), .p .move, [.tmp 1], none⟩,
    ⟨(some 25), .h (.call 10), [.tmp 24, .lit (.int .u64 1)], none⟩,
    ⟨(some 23), .p .move, [.tmp 25], none⟩,
    ⟨(some 26), .p (.extract 0), [.tmp 23], none⟩,
    ⟨(some 27), .p (.extract 1), [.tmp 23], none⟩,
    ⟨(some 5), .p .move, [.tmp 26], none⟩,
    ⟨(some 6), .p .move, [.tmp 27], none⟩])
  (.seq (.reg [⟨(some 28), .p .move, [.tmp 3], none⟩,
    ⟨(some 29), .p .move, [.tmp 28], none⟩,
    ⟨(some 30), .p .move, [.tmp 2], some (29, true)⟩,
    ⟨(some 31), .p (.bin .eql), [.tmp 30, .lit (.int .i64 3)], some (29, true)⟩,
    ⟨(some 32), .p .pick, [.tmp 29, .tmp 31, .lit (.bool false)], none⟩,
    ⟨(some 33), .p .move, [.tmp 32], none⟩,
    ⟨(some 34), .p .move, [.tmp 6], some (33, true)⟩,
    ⟨(some 35), .p .not, [.tmp 34], some (33, true)⟩,
    ⟨(some 36), .p .pick, [.tmp 33, .tmp 35, .lit (.bool false)], none⟩,
    ⟨(some 37), .p .move, [.tmp 36], none⟩,
    ⟨(some 38), .p .move, [.tmp 1], some (37, true)⟩,
    ⟨(some 39), .p (.build [(.int .u64 0), (.int .u64 0)] [(0, 1), (1, 1)]), [.lit (.int .u64 1), .lit (.int .u64 2)], some (37, true)⟩,
    ⟨(some 40), .h (.call 13), [.tmp 38, .tmp 39], some (37, true)⟩,
    ⟨(some 41), .p .pick, [.tmp 37, .tmp 40, .lit (.bool false)], none⟩,
    ⟨(some 42), .p .move, [.tmp 41], none⟩,
    ⟨(some 43), .p .move, [.tmp 1], some (42, true)⟩,
    ⟨(some 44), .h (.call 12), [.tmp 43, .lit (.int .u64 1)], some (42, true)⟩,
    ⟨(some 45), .p .pick, [.tmp 42, .tmp 44, .lit (.bool false)], none⟩,
    ⟨(some 46), .p .move, [.tmp 45], none⟩,
    ⟨(some 47), .p .move, [.tmp 1], some (46, true)⟩,
    ⟨(some 48), .p (.build [(.int .u64 0), (.int .u64 0)] []), [], some (46, true)⟩,
    ⟨(some 49), .h (.call 13), [.tmp 47, .tmp 48], some (46, true)⟩,
    ⟨(some 50), .p .not, [.tmp 49], some (46, true)⟩,
    ⟨(some 51), .p .pick, [.tmp 46, .tmp 50, .lit (.bool false)], none⟩,
    ⟨(some 52), .p .move, [.tmp 51], none⟩,
    ⟨(some 53), .p .move, [.tmp 1], some (52, true)⟩,
    ⟨(some 54), .h (.call 15), [.tmp 53], some (52, true)⟩,
    ⟨(some 55), .p .pick, [.tmp 52, .tmp 54, .lit (.bool false)], none⟩,
    ⟨(some 0), .p .move, [.tmp 55], none⟩])
  .ret))))))), [.tmp 0]⟩
theorem c7 : cFunc Go.Proofs.Try.prog false 0 Go.Proofs.Try.f7 = some sf7 := by kernel_rfl
def ss7 : List Sh := []
theorem cs7 : shsOf Go.Proofs.Try.prog 12 Go.Proofs.Try.f7.params.toList = some ss7 := by kernel_rfl

/-- (*rosary/gate.Gate).Point -/
def sf8 : SFunc := ⟨3, 20, (.seq (.reg [⟨(some 4), .a .box, [.tmp 1], none⟩])
  (.seq (.reg [⟨(some 6), .p .move, [.tmp 0], none⟩,
    ⟨(some 7), .p (.eq true .ptr), [.tmp 6, .lit .nilptr], none⟩])
  (.cond (.tmp 7) (.dreg [⟨[⟨(some 8), .p .move, [.tmp 0], none⟩,
    ⟨(some 9), .p .move, [.tmp 0], none⟩,
    ⟨(some 10), .p .nilCheck, [.tmp 9], none⟩,
    ⟨(some 11), .p (.fieldAddr 3), [.tmp 10], none⟩,
    ⟨(some 12), .r (.load none), [.tmp 11], none⟩,
    ⟨(some 13), .r (.load (some 2)), [.tmp 4], none⟩,
    ⟨(some 14), .p .move, [.tmp 2], none⟩,
    ⟨(some 15), .p (.build [(.int .u64 0), (.int .u64 0), (.int .i64 0), (.int .i64 0)] [(0, 2), (2, 1)]), [.tmp 13, .tmp 14], none⟩,
    ⟨(some 16), .a (.buildSlice 4 1 [(.int .u64 0), (.int .u64 0), (.int .i64 0), (.int .i64 0)] [0]), [.tmp 15], none⟩], [], some ⟨(some 17), .h (.append 4 false), [.tmp 12, .tmp 16], none⟩⟩,
   ⟨[⟨(some 18), .p .nilCheck, [.tmp 8], none⟩,
    ⟨(some 19), .p (.fieldAddr 3), [.tmp 18], none⟩], [], some ⟨none, .h (.store 1), [.tmp 19, .tmp 17], none⟩⟩,
   ⟨[], [], none⟩])
  .skip))), []⟩
theorem c8 : cFunc Go.Proofs.Try.prog false 3 Go.Proofs.Try.f8 = some sf8 := by kernel_rfl

/-- (*rosary/gate.Gate).Tick -/
def sf9 : SFunc := ⟨1, 33, (.seq (.seq (.reg [⟨(some 3), .p .move, [.tmp 0], none⟩,
    ⟨(some 4), .p (.eq false .ptr), [.tmp 3, .lit .nilptr], none⟩])
  (.cond (.tmp 4) .ret
  .skip))
  (.seq (.seq (.reg [⟨(some 5), .p .move, [.tmp 0], none⟩,
    ⟨(some 6), .p .nilCheck, [.tmp 5], none⟩,
    ⟨(some 7), .p (.fieldAddr 3), [.tmp 6], none⟩,
    ⟨(some 8), .r (.load none), [.tmp 7], none⟩,
    ⟨(some 9), .p .lenSl, [.tmp 8], none⟩,
    ⟨(some 10), .p .move, [.lit (.int .i64 0)], none⟩])
  (.block 0 (.loop [0, 9, 10] (.seq (.reg [⟨(some 11), .p (.bin .lss), [.tmp 10, .tmp 9], none⟩])
  (.seq (.cond (.tmp 11) .skip
  (.exit 0))
  (.seq (.block 1 (.seq (.reg [⟨(some 12), .p .move, [.tmp 10], none⟩,
    ⟨(some 2), .p .move, [.tmp 12], none⟩])
  (.reg [⟨(some 13), .p .move, [.tmp 0], none⟩,
    ⟨(some 14), .p .nilCheck, [.tmp 13], none⟩,
    ⟨(some 15), .p (.fieldAddr 3), [.tmp 14], none⟩,
    ⟨(some 16), .r (.load none), [.tmp 15], none⟩,
    ⟨(some 17), .p .move, [.tmp 2], none⟩,
    ⟨(some 18), .p (.indexAddr 4), [.tmp 16, .tmp 17], none⟩,
    ⟨(some 19), .p (.fieldAddr 3), [.tmp 18], none⟩,
    ⟨(some 20), .r (.load none), [.tmp 19], none⟩,
    ⟨(some 21), .p (.bin .add), [.tmp 20, .lit (.int .i64 1)], none⟩,
    ⟨(some 22), .p (.indexAddr 4), [.tmp 16, .tmp 17], none⟩,
    ⟨(some 23), .p (.fieldAddr 3), [.tmp 22], none⟩,
    ⟨none, .h (.store 1), [.tmp 23, .tmp 21], none⟩])))
  (.reg [⟨(some 24), .p (.bin .add), [.tmp 10, .lit (.int .i64 1)], none⟩,
    ⟨(some 10), .p .move, [.tmp 24], none⟩])))))))
  (.reg [⟨(some 25), .p .move, [.tmp 0], none⟩,
    ⟨(some 26), .p .move, [.tmp 0], none⟩,
    ⟨(some 27), .p .nilCheck, [.tmp 26], none⟩,
    ⟨(some 28), .p (.fieldAddr 3), [.tmp 27], none⟩,
    ⟨(some 29), .r (.load none), [.tmp 28], none⟩,
    ⟨(some 30), .h (.call 21), [.tmp 29, .lit (.func 22 [])], none⟩,
    ⟨(some 31), .p .nilCheck, [.tmp 25], none⟩,
    ⟨(some 32), .p (.fieldAddr 3), [.tmp 31], none⟩,
    ⟨none, .h (.store 1), [.tmp 32, .tmp 30], none⟩]))), []⟩
theorem c9 : cFunc Go.Proofs.Try.prog false 1 Go.Proofs.Try.f9 = some sf9 := by kernel_rfl

/-- (*rosary/gate.Gate).Where -/
def sf10 : SFunc := ⟨2, 39, (.seq (.reg [⟨(some 4), .p .move, [.lit (.int .i64 0)], none⟩,
    ⟨(some 5), .p .move, [.lit (.bool false)], none⟩])
  (.scope (.seq (.reg [⟨(some 6), .p .move, [.lit (.int .i64 0)], none⟩,
    ⟨(some 7), .p .move, [.lit (.bool false)], none⟩])
  (.seq (.seq (.reg [⟨(some 10), .p .move, [.tmp 0], none⟩,
    ⟨(some 11), .p (.eq false .ptr), [.tmp 10, .lit .nilptr], none⟩])
  (.cond (.tmp 11) (.seq (.reg [⟨(some 12), .p .move, [.tmp 6], none⟩,
    ⟨(some 13), .p .move, [.tmp 7], none⟩,
    ⟨(some 4), .p .move, [.tmp 12], none⟩,
    ⟨(some 5), .p .move, [.tmp 13], none⟩])
  .ret)
  .skip))
  (.seq .skip
  (.seq (.seq (.reg [⟨(some 14), .p .move, [.tmp 0], none⟩,
    ⟨(some 15), .p .nilCheck, [.tmp 14], none⟩,
    ⟨(some 16), .p (.fieldAddr 3), [.tmp 15], none⟩,
    ⟨(some 17), .r (.load none), [.tmp 16], none⟩,
    ⟨(some 18), .p .lenSl, [.tmp 17], none⟩,
    ⟨(some 19), .p (.bin .sub), [.tmp 18, .lit (.int .i64 1)], none⟩,
    ⟨(some 8), .p .move, [.tmp 19], none⟩])
  (.block 0 (.loop [0, 1, 6, 7, 8] (.seq (.seq (.reg [⟨(some 20), .p .move, [.tmp 8], none⟩,
    ⟨(some 21), .p (.bin .geq), [.tmp 20, .lit (.int .i64 0)], none⟩])
  (.cond (.tmp 21) .skip
  (.exit 0)))
  (.seq (.block 1 (.seq (.reg [⟨(some 24), .p .move, [.tmp 0], none⟩,
    ⟨(some 25), .p .nilCheck, [.tmp 24], none⟩,
    ⟨(some 26), .p (.fieldAddr 3), [.tmp 25], none⟩,
    ⟨(some 27), .r (.load none), [.tmp 26], none⟩,
    ⟨(some 28), .p .move, [.tmp 8], none⟩,
    ⟨(some 29), .p (.indexAddr 4), [.tmp 27, .tmp 28], none⟩,
    ⟨(some 30), .r (.load (some 4)), [.tmp 29], none⟩,
    ⟨(some 9), .a (.alloc [(.int .u64 0), (.int .u64 0), (.int .i64 0), (.int .i64 0)]), [], none⟩,
    ⟨none, .h (.store 4), [.tmp 9, .tmp 30], none⟩])
  (.seq (.reg [⟨(some 31), .p (.fieldAddr 0), [.tmp 9], none⟩,
    ⟨(some 32), .r (.load (some 2)), [.tmp 31], none⟩,
    ⟨(some 33), .p .move, [.tmp 1], none⟩,
    ⟨(some 34), .h (.call 11), [.tmp 32, .tmp 33], none⟩])
  (.cond (.tmp 34) (.seq (.reg [⟨(some 35), .p (.fieldAddr 2), [.tmp 9], none⟩,
    ⟨(some 36), .r (.load none), [.tmp 35], none⟩,
    ⟨(some 6), .p .move, [.tmp 36], none⟩,
    ⟨(some 7), .p .move, [.lit (.bool true)], none⟩])
  (.exit 0))
  .skip))))
  (.reg [⟨(some 22), .p .move, [.tmp 8], none⟩,
    ⟨(some 23), .p (.bin .sub), [.tmp 22, .lit (.int .i64 1)], none⟩,
    ⟨(some 8), .p .move, [.tmp 23], none⟩]))))))
  (.seq (.reg [⟨(some 37), .p .move, [.tmp 6], none⟩,
    ⟨(some 38), .p .move, [.tmp 7], none⟩,
    ⟨(some 4), .p .move, [.tmp 37], none⟩,
    ⟨(some 5), .p .move, [.tmp 38], none⟩])
  .ret))))))), [.tmp 4, .tmp 5]⟩
theorem c10 : cFunc Go.Proofs.Try.prog false 2 Go.Proofs.Try.f10 = some sf10 := by kernel_rfl

/-- rosary/arc.In -/
def sf11 : SFunc := ⟨2, 16, (.seq (.reg [⟨(some 2), .a .box, [.tmp 0], none⟩,
    ⟨(some 4), .p .move, [.lit (.bool false)], none⟩])
  (.seq (.dreg [⟨[⟨(some 5), .r (.load (some 2)), [.tmp 2], none⟩], [], some ⟨(some 6), .h (.call 23), [.tmp 5], none⟩⟩,
   ⟨[⟨(some 7), .p .move, [.tmp 6], none⟩,
    ⟨(some 8), .p .move, [.tmp 1], some (7, false)⟩,
    ⟨(some 9), .p (.fieldAddr 0), [.tmp 2], some (7, false)⟩,
    ⟨(some 10), .r (.load none), [.tmp 9], some (7, false)⟩,
    ⟨(some 11), .p (.bin .sub), [.tmp 8, .tmp 10], some (7, false)⟩,
    ⟨(some 12), .r (.load (some 2)), [.tmp 2], some (7, false)⟩], [], some ⟨(some 13), .h (.call 24), [.tmp 12], some (7, false)⟩⟩,
   ⟨[⟨(some 14), .p (.bin .lss), [.tmp 11, .tmp 13], some (7, false)⟩,
    ⟨(some 15), .p .pick, [.tmp 7, .lit (.bool true), .tmp 14], none⟩,
    ⟨(some 4), .p .move, [.tmp 15], none⟩], [⟨(some 10), .r (.load none), [.tmp 9], some (7, false)⟩], none⟩])
  .ret)), [.tmp 4]⟩
theorem c11 : cFunc Go.Proofs.Try.prog false 2 Go.Proofs.Try.f11 = some sf11 := by kernel_rfl

/-- (*rosary/gate.Gate).Frozen -/
def sf12 : SFunc := ⟨2, 21, (.seq (.reg [⟨(some 4), .p .move, [.lit (.bool false)], none⟩])
  (.seq (.reg [⟨(some 5), .p .move, [.tmp 0], none⟩,
    ⟨(some 6), .p (.eq true .ptr), [.tmp 5, .lit .nilptr], none⟩,
    ⟨(some 7), .p .move, [.tmp 6], none⟩,
    ⟨(some 8), .p .move, [.tmp 0], some (7, true)⟩,
    ⟨(some 9), .p .nilCheck, [.tmp 8], some (7, true)⟩,
    ⟨(some 10), .p (.fieldAddr 0), [.tmp 9], some (7, true)⟩,
    ⟨(some 11), .r (.load none), [.tmp 10], some (7, true)⟩,
    ⟨(some 12), .p .pick, [.tmp 7, .tmp 11, .lit (.bool false)], none⟩,
    ⟨(some 13), .p .move, [.tmp 12], none⟩,
    ⟨(some 14), .p .move, [.tmp 0], some (13, true)⟩,
    ⟨(some 15), .p .nilCheck, [.tmp 14], some (13, true)⟩,
    ⟨(some 16), .p (.fieldAddr 1), [.tmp 15], some (13, true)⟩,
    ⟨(some 17), .r (.load (some 2)), [.tmp 16], some (13, true)⟩,
    ⟨(some 18), .p .move, [.tmp 1], some (13, true)⟩,
    ⟨(some 19), .h (.call 11), [.tmp 17, .tmp 18], some (13, true)⟩,
    ⟨(some 20), .p .pick, [.tmp 13, .tmp 19, .lit (.bool false)], none⟩,
    ⟨(some 4), .p .move, [.tmp 20], none⟩])
  .ret)), [.tmp 4]⟩
theorem c12 : cFunc Go.Proofs.Try.prog false 2 Go.Proofs.Try.f12 = some sf12 := by kernel_rfl

/-- (*rosary/gate.Gate).Freeze -/
def sf13 : SFunc := ⟨2, 20, (.seq (.reg [⟨(some 3), .a .box, [.tmp 1], none⟩,
    ⟨(some 4), .p .move, [.lit (.bool false)], none⟩])
  (.seq (.seq (.reg [⟨(some 5), .p .move, [.tmp 0], none⟩,
    ⟨(some 6), .p (.eq false .ptr), [.tmp 5, .lit .nilptr], none⟩,
    ⟨(some 7), .p .move, [.tmp 6], none⟩,
    ⟨(some 8), .p .move, [.tmp 0], some (7, false)⟩,
    ⟨(some 9), .p .nilCheck, [.tmp 8], some (7, false)⟩,
    ⟨(some 10), .p (.fieldAddr 0), [.tmp 9], some (7, false)⟩,
    ⟨(some 11), .r (.load none), [.tmp 10], some (7, false)⟩,
    ⟨(some 12), .p .pick, [.tmp 7, .lit (.bool true), .tmp 11], none⟩])
  (.cond (.tmp 12) (.seq (.reg [⟨(some 4), .p .move, [.lit (.bool false)], none⟩])
  .ret)
  .skip))
  (.seq (.dreg [⟨[⟨(some 13), .p .move, [.tmp 0], none⟩,
    ⟨(some 14), .p .move, [.tmp 0], none⟩,
    ⟨(some 15), .r (.load (some 2)), [.tmp 3], none⟩,
    ⟨(some 16), .p .nilCheck, [.tmp 13], none⟩,
    ⟨(some 17), .p (.fieldAddr 0), [.tmp 16], none⟩], [], some ⟨none, .h (.store 1), [.tmp 17, .lit (.bool true)], none⟩⟩,
   ⟨[⟨(some 18), .p .nilCheck, [.tmp 14], none⟩,
    ⟨(some 19), .p (.fieldAddr 1), [.tmp 18], none⟩], [⟨(some 15), .r (.load (some 2)), [.tmp 3], none⟩], some ⟨none, .h (.store 2), [.tmp 19, .tmp 15], none⟩⟩,
   ⟨[], [], none⟩])
  (.seq (.reg [⟨(some 4), .p .move, [.lit (.bool true)], none⟩])
  .ret)))), [.tmp 4]⟩
theorem c13 : cFunc Go.Proofs.Try.prog false 2 Go.Proofs.Try.f13 = some sf13 := by kernel_rfl

/-- (*rosary/gate.Gate).Arc -/
def sf14 : SFunc := ⟨1, 15, (.seq (.reg [⟨(some 2), .a (.alloc [(.int .u64 0), (.int .u64 0)]), [], none⟩,
    ⟨(some 3), .p .move, [.lit (.bool false)], none⟩])
  (.seq (.seq (.reg [⟨(some 4), .p .move, [.tmp 0], none⟩,
    ⟨(some 5), .p (.eq false .ptr), [.tmp 4, .lit .nilptr], none⟩])
  (.cond (.tmp 5) (.seq (.reg [⟨(some 6), .p (.build [(.int .u64 0), (.int .u64 0)] []), [], none⟩,
    ⟨none, .h (.store 2), [.tmp 2, .tmp 6], none⟩,
    ⟨(some 3), .p .move, [.lit (.bool false)], none⟩])
  .ret)
  .skip))
  (.seq (.dreg [⟨[⟨(some 7), .p .move, [.tmp 0], none⟩,
    ⟨(some 8), .p .nilCheck, [.tmp 7], none⟩,
    ⟨(some 9), .p (.fieldAddr 1), [.tmp 8], none⟩,
    ⟨(some 10), .r (.load (some 2)), [.tmp 9], none⟩,
    ⟨(some 11), .p .move, [.tmp 0], none⟩,
    ⟨(some 12), .p .nilCheck, [.tmp 11], none⟩,
    ⟨(some 13), .p (.fieldAddr 0), [.tmp 12], none⟩,
    ⟨(some 14), .r (.load none), [.tmp 13], none⟩], [], some ⟨none, .h (.store 2), [.tmp 2, .tmp 10], none⟩⟩,
   ⟨[⟨(some 3), .p .move, [.tmp 14], none⟩], [⟨(some 14), .r (.load none), [.tmp 13], none⟩], none⟩])
  .ret))), [.cell 2 (some 2), .tmp 3]⟩
theorem c14 : cFunc Go.Proofs.Try.prog false 1 Go.Proofs.Try.f14 = some sf14 := by kernel_rfl

/-- (*rosary/gate.Gate).Thaw -/
def sf15 : SFunc := ⟨1, 19, (.seq (.reg [⟨(some 2), .p .move, [.lit (.bool false)], none⟩])
  (.seq (.seq (.reg [⟨(some 3), .p .move, [.tmp 0], none⟩,
    ⟨(some 4), .p (.eq false .ptr), [.tmp 3, .lit .nilptr], none⟩,
    ⟨(some 5), .p .move, [.tmp 4], none⟩,
    ⟨(some 6), .p .move, [.tmp 0], some (5, false)⟩,
    ⟨(some 7), .p .nilCheck, [.tmp 6], some (5, false)⟩,
    ⟨(some 8), .p (.fieldAddr 0), [.tmp 7], some (5, false)⟩,
    ⟨(some 9), .r (.load none), [.tmp 8], some (5, false)⟩,
    ⟨(some 10), .p .not, [.tmp 9], some (5, false)⟩,
    ⟨(some 11), .p .pick, [.tmp 5, .lit (.bool true), .tmp 10], none⟩])
  (.cond (.tmp 11) (.seq (.reg [⟨(some 2), .p .move, [.lit (.bool false)], none⟩])
  .ret)
  .skip))
  (.seq (.reg [⟨(some 12), .p .move, [.tmp 0], none⟩,
    ⟨(some 13), .p .move, [.tmp 0], none⟩,
    ⟨(some 14), .p (.build [(.int .u64 0), (.int .u64 0)] []), [], none⟩,
    ⟨(some 15), .p .nilCheck, [.tmp 12], none⟩,
    ⟨(some 16), .p (.fieldAddr 0), [.tmp 15], none⟩,
    ⟨none, .h (.store 1), [.tmp 16, .lit (.bool false)], none⟩,
    ⟨(some 17), .p .nilCheck, [.tmp 13], none⟩,
    ⟨(some 18), .p (.fieldAddr 1), [.tmp 17], none⟩,
    ⟨none, .h (.store 2), [.tmp 18, .tmp 14], none⟩])
  (.seq (.reg [⟨(some 2), .p .move, [.lit (.bool true)], none⟩])
  .ret)))), [.tmp 2]⟩
theorem c15 : cFunc Go.Proofs.Try.prog false 1 Go.Proofs.Try.f15 = some sf15 := by kernel_rfl

/-- (*rosary/gate.Gate).Points -/
def sf16 : SFunc := ⟨1, 10, (.seq (.reg [⟨(some 2), .p .move, [.lit (.int .i64 0)], none⟩])
  (.seq (.seq (.reg [⟨(some 3), .p .move, [.tmp 0], none⟩,
    ⟨(some 4), .p (.eq false .ptr), [.tmp 3, .lit .nilptr], none⟩])
  (.cond (.tmp 4) (.seq (.reg [⟨(some 2), .p .move, [.lit (.int .i64 0)], none⟩])
  .ret)
  .skip))
  (.seq (.reg [⟨(some 5), .p .move, [.tmp 0], none⟩,
    ⟨(some 6), .p .nilCheck, [.tmp 5], none⟩,
    ⟨(some 7), .p (.fieldAddr 3), [.tmp 6], none⟩,
    ⟨(some 8), .r (.load none), [.tmp 7], none⟩,
    ⟨(some 9), .p .lenSl, [.tmp 8], none⟩,
    ⟨(some 2), .p .move, [.tmp 9], none⟩])
  .ret))), [.tmp 2]⟩
theorem c16 : cFunc Go.Proofs.Try.prog false 1 Go.Proofs.Try.f16 = some sf16 := by kernel_rfl

/-- (*rosary/rosaryref10.Gate).Point -/
def sf17 : SFunc := ⟨3, 19, (.seq (.reg [⟨(some 4), .a .box, [.tmp 1], none⟩])
  (.dreg [⟨[⟨(some 6), .p .move, [.tmp 0], none⟩,
    ⟨(some 7), .p .move, [.tmp 0], none⟩,
    ⟨(some 8), .p .nilCheck, [.tmp 7], none⟩,
    ⟨(some 9), .p (.fieldAddr 3), [.tmp 8], none⟩,
    ⟨(some 10), .r (.load none), [.tmp 9], none⟩,
    ⟨(some 12), .r (.load (some 2)), [.tmp 4], none⟩,
    ⟨(some 13), .p .move, [.tmp 2], none⟩,
    ⟨(some 14), .p (.build [(.int .u64 0), (.int .u64 0), (.int .i64 0), (.int .i64 0)] [(0, 2), (2, 1), (3, 1)]), [.tmp 12, .tmp 13, .lit (.int .i64 0)], none⟩,
    ⟨(some 15), .a (.buildSlice 4 1 [(.int .u64 0), (.int .u64 0), (.int .i64 0), (.int .i64 0)] [0]), [.tmp 14], none⟩], [], some ⟨(some 11), .h (.append 4 false), [.lit .nilslice, .tmp 10], none⟩⟩,
   ⟨[], [⟨(some 12), .r (.load (some 2)), [.tmp 4], none⟩], some ⟨(some 16), .h (.append 4 false), [.tmp 11, .tmp 15], none⟩⟩,
   ⟨[⟨(some 17), .p .nilCheck, [.tmp 6], none⟩,
    ⟨(some 18), .p (.fieldAddr 3), [.tmp 17], none⟩], [], some ⟨none, .h (.store 1), [.tmp 18, .tmp 16], none⟩⟩,
   ⟨[], [], none⟩])), []⟩
theorem c17 : cFunc Go.Proofs.Try.prog false 3 Go.Proofs.Try.f17 = some sf17 := by kernel_rfl

/-- (*rosary/rosaryref10.Gate).Tick -/
def sf18 : SFunc := ⟨1, 36, (.seq (.reg [⟨(some 2), .p .move, [.lit .nilslice], none⟩])
  (.seq (.seq (.reg [⟨(some 3), .p .move, [.lit (.int .i64 0)], none⟩])
  (.block 0 (.loop [0, 2, 3] (.seq (.seq (.reg [⟨(some 5), .p .move, [.tmp 3], none⟩,
    ⟨(some 6), .p .move, [.tmp 0], none⟩,
    ⟨(some 7), .p .nilCheck, [.tmp 6], none⟩,
    ⟨(some 8), .p (.fieldAddr 3), [.tmp 7], none⟩,
    ⟨(some 9), .r (.load none), [.tmp 8], none⟩,
    ⟨(some 10), .p .lenSl, [.tmp 9], none⟩,
    ⟨(some 11), .p (.bin .lss), [.tmp 5, .tmp 10], none⟩])
  (.cond (.tmp 11) .skip
  (.exit 0)))
  (.seq (.block 1 (.seq (.reg [⟨(some 14), .p .move, [.tmp 0], none⟩,
    ⟨(some 15), .p .nilCheck, [.tmp 14], none⟩,
    ⟨(some 16), .p (.fieldAddr 3), [.tmp 15], none⟩,
    ⟨(some 17), .r (.load none), [.tmp 16], none⟩,
    ⟨(some 18), .p .move, [.tmp 3], none⟩,
    ⟨(some 19), .p (.indexAddr 4), [.tmp 17, .tmp 18], none⟩,
    ⟨(some 20), .r (.load (some 4)), [.tmp 19], none⟩,
    ⟨(some 4), .a (.alloc [(.int .u64 0), (.int .u64 0), (.int .i64 0), (.int .i64 0)]), [], none⟩,
    ⟨none, .h (.store 4), [.tmp 4, .tmp 20], none⟩])
  (.seq (.reg [⟨(some 21), .p (.fieldAddr 3), [.tmp 4], none⟩,
    ⟨(some 22), .r (.load none), [.tmp 21], none⟩,
    ⟨(some 23), .p (.bin .add), [.tmp 22, .lit (.int .i64 1)], none⟩,
    ⟨(some 24), .p (.fieldAddr 3), [.tmp 4], none⟩,
    ⟨none, .h (.store 1), [.tmp 24, .tmp 23], none⟩])
  (.seq (.reg [⟨(some 25), .p (.fieldAddr 3), [.tmp 4], none⟩,
    ⟨(some 26), .r (.load none), [.tmp 25], none⟩,
    ⟨(some 27), .p (.bin .lss), [.tmp 26, .lit (.int .i64 40)], none⟩])
  (.cond (.tmp 27) (.reg [⟨(some 28), .p .move, [.tmp 2], none⟩,
    ⟨(some 29), .r (.load (some 4)), [.tmp 4], none⟩,
    ⟨(some 30), .a (.buildSlice 4 1 [(.int .u64 0), (.int .u64 0), (.int .i64 0), (.int .i64 0)] [0]), [.tmp 29], none⟩,
    ⟨(some 31), .h (.append 4 false), [.tmp 28, .tmp 30], none⟩,
    ⟨(some 2), .p .move, [.tmp 31], none⟩])
  .skip)))))
  (.reg [⟨(some 12), .p .move, [.tmp 3], none⟩,
    ⟨(some 13), .p (.bin .add), [.tmp 12, .lit (.int .i64 1)], none⟩,
    ⟨(some 3), .p .move, [.tmp 13], none⟩]))))))
  (.reg [⟨(some 32), .p .move, [.tmp 0], none⟩,
    ⟨(some 33), .p .move, [.tmp 2], none⟩,
    ⟨(some 34), .p .nilCheck, [.tmp 32], none⟩,
    ⟨(some 35), .p (.fieldAddr 3), [.tmp 34], none⟩,
    ⟨none, .h (.store 1), [.tmp 35, .tmp 33], none⟩]))), []⟩
theorem c18 : cFunc Go.Proofs.Try.prog false 1 Go.Proofs.Try.f18 = some sf18 := by kernel_rfl

/-- (*rosary/rosaryref10.Gate).Where -/
def sf19 : SFunc := ⟨2, 35, (.seq (.reg [⟨(some 4), .p .move, [.lit (.int .i64 0)], none⟩,
    ⟨(some 5), .p .move, [.lit (.bool false)], none⟩])
  (.seq (.seq (.reg [⟨(some 7), .p .move, [.tmp 0], none⟩,
    ⟨(some 8), .p .nilCheck, [.tmp 7], none⟩,
    ⟨(some 9), .p (.fieldAddr 3), [.tmp 8], none⟩,
    ⟨(some 10), .r (.load none), [.tmp 9], none⟩,
    ⟨(some 11), .p .lenSl, [.tmp 10], none⟩,
    ⟨(some 12), .p (.bin .sub), [.tmp 11, .lit (.int .i64 1)], none⟩,
    ⟨(some 6), .p .move, [.tmp 12], none⟩])
  (.block 0 (.loop [0, 1, 6] (.seq (.seq (.reg [⟨(some 13), .p .move, [.tmp 6], none⟩,
    ⟨(some 14), .p (.bin .geq), [.tmp 13, .lit (.int .i64 0)], none⟩])
  (.cond (.tmp 14) .skip
  (.exit 0)))
  (.seq (.block 1 (.seq (.reg [⟨(some 17), .p .move, [.tmp 0], none⟩,
    ⟨(some 18), .p .nilCheck, [.tmp 17], none⟩,
    ⟨(some 19), .p (.fieldAddr 3), [.tmp 18], none⟩,
    ⟨(some 20), .r (.load none), [.tmp 19], none⟩,
    ⟨(some 21), .p .move, [.tmp 6], none⟩,
    ⟨(some 22), .p (.indexAddr 4), [.tmp 20, .tmp 21], none⟩,
    ⟨(some 23), .p (.fieldAddr 0), [.tmp 22], none⟩,
    ⟨(some 24), .r (.load (some 2)), [.tmp 23], none⟩,
    ⟨(some 25), .p .move, [.tmp 1], none⟩,
    ⟨(some 26), .h (.call 25), [.tmp 24, .tmp 25], none⟩])
  (.cond (.tmp 26) (.seq (.reg [⟨(some 27), .p .move, [.tmp 0], none⟩,
    ⟨(some 28), .p .nilCheck, [.tmp 27], none⟩,
    ⟨(some 29), .p (.fieldAddr 3), [.tmp 28], none⟩,
    ⟨(some 30), .r (.load none), [.tmp 29], none⟩,
    ⟨(some 31), .p .move, [.tmp 6], none⟩,
    ⟨(some 32), .p (.indexAddr 4), [.tmp 30, .tmp 31], none⟩,
    ⟨(some 33), .p (.fieldAddr 2), [.tmp 32], none⟩,
    ⟨(some 34), .r (.load none), [.tmp 33], none⟩,
    ⟨(some 4), .p .move, [.tmp 34], none⟩,
    ⟨(some 5), .p .move, [.lit (.bool true)], none⟩])
  .ret)
  .skip)))
  (.reg [⟨(some 15), .p .move, [.tmp 6], none⟩,
    ⟨(some 16), .p (.bin .sub), [.tmp 15, .lit (.int .i64 1)], none⟩,
    ⟨(some 6), .p .move, [.tmp 16], none⟩]))))))
  (.seq (.reg [⟨(some 4), .p .move, [.lit (.int .i64 0)], none⟩,
    ⟨(some 5), .p .move, [.lit (.bool false)], none⟩])
  .ret))), [.tmp 4, .tmp 5]⟩
theorem c19 : cFunc Go.Proofs.Try.prog false 2 Go.Proofs.Try.f19 = some sf19 := by kernel_rfl

/-- (*rosary/rosaryref10.Gate).Frozen -/
def sf20 : SFunc := ⟨2, 17, (.seq (.reg [⟨(some 4), .p .move, [.lit (.bool false)], none⟩])
  (.seq (.reg [⟨(some 5), .p .move, [.tmp 0], none⟩,
    ⟨(some 6), .p .nilCheck, [.tmp 5], none⟩,
    ⟨(some 7), .p (.fieldAddr 0), [.tmp 6], none⟩,
    ⟨(some 8), .r (.load none), [.tmp 7], none⟩,
    ⟨(some 9), .p .move, [.tmp 8], none⟩,
    ⟨(some 10), .p .move, [.tmp 0], some (9, true)⟩,
    ⟨(some 11), .p .nilCheck, [.tmp 10], some (9, true)⟩,
    ⟨(some 12), .p (.fieldAddr 1), [.tmp 11], some (9, true)⟩,
    ⟨(some 13), .r (.load (some 2)), [.tmp 12], some (9, true)⟩,
    ⟨(some 14), .p .move, [.tmp 1], some (9, true)⟩,
    ⟨(some 15), .h (.call 25), [.tmp 13, .tmp 14], some (9, true)⟩,
    ⟨(some 16), .p .pick, [.tmp 9, .tmp 15, .lit (.bool false)], none⟩,
    ⟨(some 4), .p .move, [.tmp 16], none⟩])
  .ret)), [.tmp 4]⟩
theorem c20 : cFunc Go.Proofs.Try.prog false 2 Go.Proofs.Try.f20 = some sf20 := by kernel_rfl

/-- slices.DeleteFunc[[]rosary/gate.pointer,rosary/gate.pointer] -/
def sf21 : SFunc := ⟨2, 42, (.seq (.reg [⟨(some 4), .p .move, [.lit .nilslice], none⟩])
  (.seq (.reg [⟨(some 8), .p .move, [.tmp 0], none⟩,
    ⟨(some 9), .p .move, [.tmp 1], none⟩,
    ⟨(some 10), .h (.call 26), [.tmp 8, .tmp 9], none⟩,
    ⟨(some 5), .p .move, [.tmp 10], none⟩])
  (.seq (.seq (.reg [⟨(some 11), .p .move, [.tmp 5], none⟩,
    ⟨(some 12), .p (.bin .eql), [.tmp 11, .lit (.int .i64 (-1))], none⟩])
  (.cond (.tmp 12) (.seq (.reg [⟨(some 13), .p .move, [.tmp 0], none⟩,
    ⟨(some 4), .p .move, [.tmp 13], none⟩])
  .ret)
  .skip))
  (.seq (.seq (.reg [⟨(some 14), .p .move, [.tmp 5], none⟩,
    ⟨(some 15), .p (.bin .add), [.tmp 14, .lit (.int .i64 1)], none⟩,
    ⟨(some 6), .p .move, [.tmp 15], none⟩])
  (.block 0 (.loop [0, 1, 5, 6] (.seq (.seq (.reg [⟨(some 16), .p .move, [.tmp 6], none⟩,
    ⟨(some 17), .p .move, [.tmp 0], none⟩,
    ⟨(some 18), .p .lenSl, [.tmp 17], none⟩,
    ⟨(some 19), .p (.bin .lss), [.tmp 16, .tmp 18], none⟩])
  (.cond (.tmp 19) .skip
  (.exit 0)))
  (.seq (.block 1 (.seq (.reg [⟨(some 22), .p .move, [.tmp 0], none⟩,
    ⟨(some 23), .p .move, [.tmp 6], none⟩,
    ⟨(some 24), .p (.indexAddr 4), [.tmp 22, .tmp 23], none⟩,
    ⟨(some 25), .r (.load (some 4)), [.tmp 24], none⟩,
    ⟨(some 7), .a (.alloc [(.int .u64 0), (.int .u64 0), (.int .i64 0), (.int .i64 0)]), [], none⟩,
    ⟨none, .h (.store 4), [.tmp 7, .tmp 25], none⟩])
  (.seq (.reg [⟨(some 26), .p .move, [.tmp 1], none⟩,
    ⟨(some 27), .r (.load (some 4)), [.tmp 7], none⟩,
    ⟨(some 28), .h .callV, [.tmp 26, .tmp 27], none⟩,
    ⟨(some 29), .p .not, [.tmp 28], none⟩])
  (.cond (.tmp 29) (.seq (.reg [⟨(some 30), .p .move, [.tmp 0], none⟩,
    ⟨(some 31), .p .move, [.tmp 5], none⟩,
    ⟨(some 32), .r (.load (some 4)), [.tmp 7], none⟩,
    ⟨(some 33), .p (.indexAddr 4), [.tmp 30, .tmp 31], none⟩,
    ⟨none, .h (.store 4), [.tmp 33, .tmp 32], none⟩])
  (.reg [⟨(some 34), .p .move, [.tmp 5], none⟩,
    ⟨(some 35), .p (.bin .add), [.tmp 34, .lit (.int .i64 1)], none⟩,
    ⟨(some 5), .p .move, [.tmp 35], none⟩]))
  .skip))))
  (.reg [⟨(some 20), .p .move, [.tmp 6], none⟩,
    ⟨(some 21), .p (.bin .add), [.tmp 20, .lit (.int .i64 1)], none⟩,
    ⟨(some 6), .p .move, [.tmp 21], none⟩]))))))
  (.seq (.reg [⟨(some 36), .p .move, [.tmp 0], none⟩,
    ⟨(some 37), .p .move, [.tmp 5], none⟩,
    ⟨(some 38), .p (.sliceSl 4 true false false), [.tmp 36, .tmp 37], none⟩,
    ⟨none, .h (.clear [(.int .u64 0), (.int .u64 0), (.int .i64 0), (.int .i64 0)]), [.tmp 38], none⟩])
  (.seq (.reg [⟨(some 39), .p .move, [.tmp 0], none⟩,
    ⟨(some 40), .p .move, [.tmp 5], none⟩,
    ⟨(some 41), .p (.sliceSl 4 false true false), [.tmp 39, .tmp 40], none⟩,
    ⟨(some 4), .p .move, [.tmp 41], none⟩])
  .ret)))))), [.tmp 4]⟩
theorem c21 : cFunc Go.Proofs.Try.prog false 2 Go.Proofs.Try.f21 = some sf21 := by kernel_rfl

/-- (*rosary/gate.Gate).Tick$1 -/
def sf22 : SFunc := ⟨1, 6, (.seq (.reg [⟨(some 1), .a .box, [.tmp 0], none⟩,
    ⟨(some 2), .p .move, [.lit (.bool false)], none⟩])
  (.seq (.reg [⟨(some 3), .p (.fieldAddr 3), [.tmp 1], none⟩,
    ⟨(some 4), .r (.load none), [.tmp 3], none⟩,
    ⟨(some 5), .p (.bin .geq), [.tmp 4, .lit (.int .i64 40)], none⟩,
    ⟨(some 2), .p .move, [.tmp 5], none⟩])
  .ret)), [.tmp 2]⟩
theorem c22 : cFunc Go.Proofs.Try.prog false 1 Go.Proofs.Try.f22 = some sf22 := by kernel_rfl

/-- rosary/arc.Whole -/
def sf23 : SFunc := ⟨1, 8, (.seq (.reg [⟨(some 1), .a .box, [.tmp 0], none⟩,
    ⟨(some 2), .p .move, [.lit (.bool false)], none⟩])
  (.seq (.reg [⟨(some 3), .p (.fieldAddr 0), [.tmp 1], none⟩,
    ⟨(some 4), .r (.load none), [.tmp 3], none⟩,
    ⟨(some 5), .p (.fieldAddr 1), [.tmp 1], none⟩,
    ⟨(some 6), .r (.load none), [.tmp 5], none⟩,
    ⟨(some 7), .p (.bin .eql), [.tmp 4, .tmp 6], none⟩,
    ⟨(some 2), .p .move, [.tmp 7], none⟩])
  .ret)), [.tmp 2]⟩
theorem c23 : cFunc Go.Proofs.Try.prog false 1 Go.Proofs.Try.f23 = some sf23 := by kernel_rfl

/-- rosary/arc.Size -/
def sf24 : SFunc := ⟨1, 8, (.seq (.reg [⟨(some 1), .a .box, [.tmp 0], none⟩,
    ⟨(some 2), .p .move, [.lit (.int .u64 0)], none⟩])
  (.seq (.reg [⟨(some 3), .p (.fieldAddr 1), [.tmp 1], none⟩,
    ⟨(some 4), .r (.load none), [.tmp 3], none⟩,
    ⟨(some 5), .p (.fieldAddr 0), [.tmp 1], none⟩,
    ⟨(some 6), .r (.load none), [.tmp 5], none⟩,
    ⟨(some 7), .p (.bin .sub), [.tmp 4, .tmp 6], none⟩,
    ⟨(some 2), .p .move, [.tmp 7], none⟩])
  .ret)), [.tmp 2]⟩
theorem c24 : cFunc Go.Proofs.Try.prog false 1 Go.Proofs.Try.f24 = some sf24 := by kernel_rfl

/-- rosary/rosaryref1.In -/
def sf25 : SFunc := ⟨2, 20, (.seq (.reg [⟨(some 2), .a .box, [.tmp 0], none⟩,
    ⟨(some 4), .p .move, [.lit (.bool false)], none⟩])
  (.seq (.seq (.reg [⟨(some 5), .p (.fieldAddr 0), [.tmp 2], none⟩,
    ⟨(some 6), .r (.load none), [.tmp 5], none⟩,
    ⟨(some 7), .p (.fieldAddr 1), [.tmp 2], none⟩,
    ⟨(some 8), .r (.load none), [.tmp 7], none⟩,
    ⟨(some 9), .p (.bin .eql), [.tmp 6, .tmp 8], none⟩])
  (.cond (.tmp 9) (.seq (.reg [⟨(some 4), .p .move, [.lit (.bool true)], none⟩])
  .ret)
  .skip))
  (.seq (.reg [⟨(some 10), .p .move, [.tmp 1], none⟩,
    ⟨(some 11), .p (.fieldAddr 0), [.tmp 2], none⟩,
    ⟨(some 12), .r (.load none), [.tmp 11], none⟩,
    ⟨(some 13), .p (.bin .sub), [.tmp 10, .tmp 12], none⟩,
    ⟨(some 14), .p (.fieldAddr 1), [.tmp 2], none⟩,
    ⟨(some 15), .r (.load none), [.tmp 14], none⟩,
    ⟨(some 16), .p (.fieldAddr 0), [.tmp 2], none⟩,
    ⟨(some 17), .r (.load none), [.tmp 16], none⟩,
    ⟨(some 18), .p (.bin .sub), [.tmp 15, .tmp 17], none⟩,
    ⟨(some 19), .p (.bin .lss), [.tmp 13, .tmp 18], none⟩,
    ⟨(some 4), .p .move, [.tmp 19], none⟩])
  .ret))), [.tmp 4]⟩
theorem c25 : cFunc Go.Proofs.Try.prog false 2 Go.Proofs.Try.f25 = some sf25 := by kernel_rfl

/-- slices.IndexFunc[[]rosary/gate.pointer,rosary/gate.pointer] -/
def sf26 : SFunc := ⟨2, 19, (.seq (.reg [⟨(some 4), .p .move, [.lit (.int .i64 0)], none⟩])
  (.seq (.seq (.reg [⟨(some 6), .p .move, [.tmp 0], none⟩,
    ⟨(some 7), .p .lenSl, [.tmp 6], none⟩,
    ⟨(some 8), .p .move, [.lit (.int .i64 0)], none⟩])
  (.block 0 (.loop [0, 1, 7, 8] (.seq (.reg [⟨(some 9), .p (.bin .lss), [.tmp 8, .tmp 7], none⟩])
  (.seq (.cond (.tmp 9) .skip
  (.exit 0))
  (.seq (.block 1 (.seq (.reg [⟨(some 10), .p .move, [.tmp 8], none⟩,
    ⟨(some 5), .p .move, [.tmp 10], none⟩])
  (.seq (.reg [⟨(some 11), .p .move, [.tmp 1], none⟩,
    ⟨(some 12), .p .move, [.tmp 0], none⟩,
    ⟨(some 13), .p .move, [.tmp 5], none⟩,
    ⟨(some 14), .p (.indexAddr 4), [.tmp 12, .tmp 13], none⟩,
    ⟨(some 15), .r (.load (some 4)), [.tmp 14], none⟩,
    ⟨(some 16), .h .callV, [.tmp 11, .tmp 15], none⟩])
  (.cond (.tmp 16) (.seq (.reg [⟨(some 17), .p .move, [.tmp 5], none⟩,
    ⟨(some 4), .p .move, [.tmp 17], none⟩])
  .ret)
  .skip))))
  (.reg [⟨(some 18), .p (.bin .add), [.tmp 8, .lit (.int .i64 1)], none⟩,
    ⟨(some 8), .p .move, [.tmp 18], none⟩])))))))
  (.seq (.reg [⟨(some 4), .p .move, [.lit (.int .i64 (-1))], none⟩])
  .ret))), [.tmp 4]⟩
theorem c26 : cFunc Go.Proofs.Try.prog false 2 Go.Proofs.Try.f26 = some sf26 := by kernel_rfl

def fs : FuncId → Option SFunc
  | 3 => some sf3
  | 4 => some sf4
  | 5 => some sf5
  | 6 => some sf6
  | 7 => some sf7
  | 8 => some sf8
  | 9 => some sf9
  | 10 => some sf10
  | 11 => some sf11
  | 12 => some sf12
  | 13 => some sf13
  | 14 => some sf14
  | 15 => some sf15
  | 16 => some sf16
  | 17 => some sf17
  | 18 => some sf18
  | 19 => some sf19
  | 20 => some sf20
  | 21 => some sf21
  | 22 => some sf22
  | 23 => some sf23
  | 24 => some sf24
  | 25 => some sf25
  | 26 => some sf26
  | _ => none
theorem fsOk : FsOk Go.Proofs.Try.prog fs := by
  intro f sf h
  unfold fs at h
  split at h
  · cases h; exact ⟨Go.Proofs.Try.f3, _, _, Go.Proofs.Try.func3, c3⟩
  · cases h; exact ⟨Go.Proofs.Try.f4, _, _, Go.Proofs.Try.func4, c4⟩
  · cases h; exact ⟨Go.Proofs.Try.f5, _, _, Go.Proofs.Try.func5, c5⟩
  · cases h; exact ⟨Go.Proofs.Try.f6, _, _, Go.Proofs.Try.func6, c6⟩
  · cases h; exact ⟨Go.Proofs.Try.f7, _, _, Go.Proofs.Try.func7, c7⟩
  · cases h; exact ⟨Go.Proofs.Try.f8, _, _, Go.Proofs.Try.func8, c8⟩
  · cases h; exact ⟨Go.Proofs.Try.f9, _, _, Go.Proofs.Try.func9, c9⟩
  · cases h; exact ⟨Go.Proofs.Try.f10, _, _, Go.Proofs.Try.func10, c10⟩
  · cases h; exact ⟨Go.Proofs.Try.f11, _, _, Go.Proofs.Try.func11, c11⟩
  · cases h; exact ⟨Go.Proofs.Try.f12, _, _, Go.Proofs.Try.func12, c12⟩
  · cases h; exact ⟨Go.Proofs.Try.f13, _, _, Go.Proofs.Try.func13, c13⟩
  · cases h; exact ⟨Go.Proofs.Try.f14, _, _, Go.Proofs.Try.func14, c14⟩
  · cases h; exact ⟨Go.Proofs.Try.f15, _, _, Go.Proofs.Try.func15, c15⟩
  · cases h; exact ⟨Go.Proofs.Try.f16, _, _, Go.Proofs.Try.func16, c16⟩
  · cases h; exact ⟨Go.Proofs.Try.f17, _, _, Go.Proofs.Try.func17, c17⟩
  · cases h; exact ⟨Go.Proofs.Try.f18, _, _, Go.Proofs.Try.func18, c18⟩
  · cases h; exact ⟨Go.Proofs.Try.f19, _, _, Go.Proofs.Try.func19, c19⟩
  · cases h; exact ⟨Go.Proofs.Try.f20, _, _, Go.Proofs.Try.func20, c20⟩
  · cases h; exact ⟨Go.Proofs.Try.f21, _, _, Go.Proofs.Try.func21, c21⟩
  · cases h; exact ⟨Go.Proofs.Try.f22, _, _, Go.Proofs.Try.func22, c22⟩
  · cases h; exact ⟨Go.Proofs.Try.f23, _, _, Go.Proofs.Try.func23, c23⟩
  · cases h; exact ⟨Go.Proofs.Try.f24, _, _, Go.Proofs.Try.func24, c24⟩
  · cases h; exact ⟨Go.Proofs.Try.f25, _, _, Go.Proofs.Try.func25, c25⟩
  · cases h; exact ⟨Go.Proofs.Try.f26, _, _, Go.Proofs.Try.func26, c26⟩
  · cases h

end Go.Proofs.Ytkkjhpcjemcdjaa.F
