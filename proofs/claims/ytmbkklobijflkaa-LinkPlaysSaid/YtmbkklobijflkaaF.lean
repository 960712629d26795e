/- The functions of this seat's program, translated for the engine (printed by wip/eng/dump.lean). -/
import Derived.Test.YtmbkklobijflkaaEngV
import Derived.Test.YtmbkklobijflkaaF0
import Derived.Test.YtmbkklobijflkaaProg
import Derived.KernelRfl
set_option maxRecDepth 1000000
set_option linter.unusedVariables false
namespace Go.Proofs.Ytmbkklobijflkaa.F
open Go Go.Eng

/-- (*rosary/rosarybook.Book).Letters -/
def sf22 : SFunc := ⟨2, 31, (.seq (.reg [⟨(some 4), .p .move, [.tmp 0], none⟩,
    ⟨(some 5), .p .nilCheck, [.tmp 4], none⟩,
    ⟨(some 6), .p (.fieldAddr 12), [.tmp 5], none⟩,
    ⟨(some 7), .r (.load none), [.tmp 6], none⟩,
    ⟨(some 8), .p .lenSl, [.tmp 7], none⟩,
    ⟨(some 9), .p (.bin .lss), [.tmp 8, .lit (.int .i64 250)], none⟩])
  (.cond (.tmp 9) (.seq (.reg [⟨(some 10), .p .move, [.tmp 0], none⟩,
    ⟨(some 11), .p .move, [.tmp 0], none⟩,
    ⟨(some 12), .p .nilCheck, [.tmp 11], none⟩,
    ⟨(some 13), .p (.fieldAddr 12), [.tmp 12], none⟩,
    ⟨(some 14), .r (.load none), [.tmp 13], none⟩,
    ⟨(some 15), .p .move, [.tmp 1], none⟩,
    ⟨(some 16), .a (.buildSlice 1 1 [.nilslice] [0]), [.tmp 15], none⟩,
    ⟨(some 17), .h (.append 1 false), [.tmp 14, .tmp 16], none⟩,
    ⟨(some 18), .p .nilCheck, [.tmp 10], none⟩,
    ⟨(some 19), .p (.fieldAddr 12), [.tmp 18], none⟩,
    ⟨none, .h (.store 1), [.tmp 19, .tmp 17], none⟩])
  (.dreg [⟨[⟨(some 20), .p .move, [.tmp 0], none⟩,
    ⟨(some 21), .p .move, [.tmp 0], none⟩,
    ⟨(some 22), .p .nilCheck, [.tmp 21], none⟩,
    ⟨(some 23), .p (.fieldAddr 13), [.tmp 22], none⟩,
    ⟨(some 24), .r (.load none), [.tmp 23], none⟩,
    ⟨(some 25), .p .move, [.tmp 1], none⟩], [], some ⟨(some 26), .h (.call 32), [.tmp 25], none⟩⟩,
   ⟨[⟨(some 27), .a (.buildSlice 1 1 [.nilslice] [0]), [.tmp 26], none⟩], [⟨(some 24), .r (.load none), [.tmp 23], none⟩], some ⟨(some 28), .h (.append 1 false), [.tmp 24, .tmp 27], none⟩⟩,
   ⟨[⟨(some 29), .p .nilCheck, [.tmp 20], none⟩,
    ⟨(some 30), .p (.fieldAddr 13), [.tmp 29], none⟩], [], some ⟨none, .h (.store 1), [.tmp 30, .tmp 28], none⟩⟩,
   ⟨[], [], none⟩]))
  .skip)), []⟩
theorem c22 : cFunc Go.Proofs.Try.prog false 2 Go.Proofs.Try.f22 = some sf22 := by kernel_rfl

/-- rosary/rosarybook.SameLetters -/
def sf23 : SFunc := ⟨2, 27, (.seq (.reg [⟨(some 4), .p .move, [.lit (.bool false)], none⟩])
  (.seq (.seq (.reg [⟨(some 6), .p .move, [.tmp 0], none⟩,
    ⟨(some 7), .p .lenSl, [.tmp 6], none⟩,
    ⟨(some 8), .p .move, [.tmp 1], none⟩,
    ⟨(some 9), .p .lenSl, [.tmp 8], none⟩,
    ⟨(some 10), .p (.bin .neq), [.tmp 7, .tmp 9], none⟩])
  (.cond (.tmp 10) (.seq (.reg [⟨(some 4), .p .move, [.lit (.bool false)], none⟩])
  .ret)
  .skip))
  (.seq (.seq (.reg [⟨(some 5), .p .move, [.lit (.int .i64 0)], none⟩])
  (.block 0 (.loop [0, 1, 5] (.seq (.seq (.reg [⟨(some 11), .p .move, [.tmp 5], none⟩,
    ⟨(some 12), .p .move, [.tmp 0], none⟩,
    ⟨(some 13), .p .lenSl, [.tmp 12], none⟩,
    ⟨(some 14), .p (.bin .lss), [.tmp 11, .tmp 13], none⟩])
  (.cond (.tmp 14) .skip
  (.exit 0)))
  (.seq (.block 1 (.seq (.dreg [⟨[⟨(some 17), .p .move, [.tmp 0], none⟩,
    ⟨(some 18), .p .move, [.tmp 5], none⟩,
    ⟨(some 19), .p (.indexAddr 21), [.tmp 17, .tmp 18], none⟩,
    ⟨(some 20), .r (.load (some 21)), [.tmp 19], none⟩,
    ⟨(some 21), .p .move, [.tmp 1], none⟩,
    ⟨(some 22), .p .move, [.tmp 5], none⟩,
    ⟨(some 23), .p (.indexAddr 21), [.tmp 21, .tmp 22], none⟩,
    ⟨(some 24), .r (.load (some 21)), [.tmp 23], none⟩], [], some ⟨(some 25), .h (.call 30), [.tmp 20, .tmp 24], none⟩⟩,
   ⟨[⟨(some 26), .p .not, [.tmp 25], none⟩], [], none⟩])
  (.cond (.tmp 26) (.seq (.reg [⟨(some 4), .p .move, [.lit (.bool false)], none⟩])
  .ret)
  .skip)))
  (.reg [⟨(some 15), .p .move, [.tmp 5], none⟩,
    ⟨(some 16), .p (.bin .add), [.tmp 15, .lit (.int .i64 1)], none⟩,
    ⟨(some 5), .p .move, [.tmp 16], none⟩]))))))
  (.seq (.reg [⟨(some 4), .p .move, [.lit (.bool true)], none⟩])
  .ret)))), [.tmp 4]⟩
theorem c23 : cFunc Go.Proofs.Try.prog false 2 Go.Proofs.Try.f23 = some sf23 := by kernel_rfl

/-- (*rosary/rosarybook.Book).Apart -/
def sf24 : SFunc := ⟨1, 134, (.seq (.reg [⟨(some 2), .p .move, [.lit (.bool false)], none⟩])
  (.seq (.seq (.reg [⟨(some 10), .p .move, [.tmp 0], none⟩,
    ⟨(some 11), .h (.call 33), [.tmp 10], none⟩,
    ⟨(some 12), .p .not, [.tmp 11], none⟩])
  (.cond (.tmp 12) (.seq (.reg [⟨(some 2), .p .move, [.lit (.bool false)], none⟩])
  .ret)
  .skip))
  (.seq (.seq (.reg [⟨(some 13), .p .move, [.tmp 0], none⟩,
    ⟨(some 14), .h (.call 34), [.tmp 13], none⟩,
    ⟨(some 15), .p .not, [.tmp 14], none⟩])
  (.cond (.tmp 15) (.seq (.reg [⟨(some 2), .p .move, [.lit (.bool false)], none⟩])
  .ret)
  .skip))
  (.seq (.seq (.reg [⟨(some 16), .p .move, [.tmp 0], none⟩,
    ⟨(some 17), .h (.call 35), [.tmp 16], none⟩,
    ⟨(some 18), .p .not, [.tmp 17], none⟩])
  (.cond (.tmp 18) (.seq (.reg [⟨(some 2), .p .move, [.lit (.bool false)], none⟩])
  .ret)
  .skip))
  (.seq (.seq (.reg [⟨(some 19), .p .move, [.tmp 0], none⟩,
    ⟨(some 20), .h (.call 36), [.tmp 19], none⟩,
    ⟨(some 21), .p .not, [.tmp 20], none⟩])
  (.cond (.tmp 21) (.seq (.reg [⟨(some 2), .p .move, [.lit (.bool false)], none⟩])
  .ret)
  .skip))
  (.seq (.seq (.reg [⟨(some 22), .p .move, [.tmp 0], none⟩,
    ⟨(some 23), .h (.call 37), [.tmp 22], none⟩,
    ⟨(some 24), .p .not, [.tmp 23], none⟩])
  (.cond (.tmp 24) (.seq (.reg [⟨(some 2), .p .move, [.lit (.bool false)], none⟩])
  .ret)
  .skip))
  (.seq (.seq (.reg [⟨(some 25), .p .move, [.tmp 0], none⟩,
    ⟨(some 26), .h (.call 38), [.tmp 25], none⟩,
    ⟨(some 27), .p .not, [.tmp 26], none⟩])
  (.cond (.tmp 27) (.seq (.reg [⟨(some 2), .p .move, [.lit (.bool false)], none⟩])
  .ret)
  .skip))
  (.seq (.seq (.reg [⟨(some 28), .p .move, [.tmp 0], none⟩,
    ⟨(some 29), .h (.call 39), [.tmp 28], none⟩,
    ⟨(some 30), .p .not, [.tmp 29], none⟩])
  (.cond (.tmp 30) (.seq (.reg [⟨(some 2), .p .move, [.lit (.bool false)], none⟩])
  .ret)
  .skip))
  (.seq (.reg [⟨(some 31), .p .move, [.tmp 0], none⟩,
    ⟨(some 32), .h (.call 40), [.tmp 31], none⟩])
  (.seq (.reg [⟨(some 33), .p .move, [.tmp 0], none⟩,
    ⟨(some 34), .h (.call 41), [.tmp 33], none⟩])
  (.seq (.reg [⟨(some 35), .p .move, [.tmp 0], none⟩,
    ⟨(some 36), .h (.call 42), [.tmp 35], none⟩])
  (.seq (.reg [⟨(some 37), .p .move, [.tmp 0], none⟩,
    ⟨(some 38), .h (.call 43), [.tmp 37], none⟩])
  (.seq (.reg [⟨(some 39), .p .move, [.tmp 0], none⟩,
    ⟨(some 40), .h (.call 44), [.tmp 39], none⟩])
  (.seq (.reg [⟨(some 41), .p .move, [.tmp 0], none⟩,
    ⟨(some 42), .h (.call 45), [.tmp 41], none⟩])
  (.seq (.reg [⟨(some 43), .p .move, [.tmp 0], none⟩,
    ⟨(some 44), .h (.call 46), [.tmp 43], none⟩])
  (.seq (.reg [⟨(some 45), .p .move, [.tmp 0], none⟩,
    ⟨(some 46), .h (.call 47), [.tmp 45], none⟩,
    ⟨(some 3), .p .move, [.tmp 46], none⟩])
  (.seq (.reg [⟨(some 47), .p .move, [.tmp 0], none⟩,
    ⟨(some 48), .h (.call 48), [.tmp 47], none⟩,
    ⟨(some 4), .p .move, [.tmp 48], none⟩])
  (.seq (.reg [⟨(some 49), .p .move, [.tmp 0], none⟩,
    ⟨(some 50), .h (.call 49), [.tmp 49], none⟩,
    ⟨(some 5), .p .move, [.tmp 50], none⟩])
  (.seq (.reg [⟨(some 51), .p .move, [.tmp 0], none⟩,
    ⟨(some 52), .h (.call 50), [.tmp 51], none⟩,
    ⟨(some 6), .p .move, [.tmp 52], none⟩])
  (.seq (.reg [⟨(some 53), .p .move, [.tmp 0], none⟩,
    ⟨(some 54), .h (.call 51), [.tmp 53], none⟩,
    ⟨(some 7), .p .move, [.tmp 54], none⟩])
  (.seq (.reg [⟨(some 55), .p .move, [.tmp 0], none⟩,
    ⟨(some 56), .h (.call 52), [.tmp 55], none⟩,
    ⟨(some 8), .p .move, [.tmp 56], none⟩])
  (.seq (.reg [⟨(some 57), .p .move, [.tmp 0], none⟩,
    ⟨(some 58), .h (.call 53), [.tmp 57], none⟩,
    ⟨(some 9), .p .move, [.tmp 58], none⟩])
  (.seq (.reg [⟨(some 59), .p .move, [.tmp 3], none⟩,
    ⟨(some 60), .h (.call 54), [.tmp 59], none⟩,
    ⟨(some 61), .p .move, [.tmp 60], none⟩,
    ⟨(some 62), .p .move, [.tmp 0], some (61, true)⟩,
    ⟨(some 63), .p .nilCheck, [.tmp 62], some (61, true)⟩,
    ⟨(some 64), .p (.fieldAddr 0), [.tmp 63], some (61, true)⟩,
    ⟨(some 65), .r (.load none), [.tmp 64], some (61, true)⟩,
    ⟨(some 66), .h (.call 54), [.tmp 65], some (61, true)⟩,
    ⟨(some 67), .p .pick, [.tmp 61, .tmp 66, .lit (.bool false)], none⟩,
    ⟨(some 68), .p .move, [.tmp 67], none⟩,
    ⟨(some 69), .p .move, [.tmp 4], some (68, true)⟩,
    ⟨(some 70), .h (.call 55), [.tmp 69], some (68, true)⟩,
    ⟨(some 71), .p .pick, [.tmp 68, .tmp 70, .lit (.bool false)], none⟩,
    ⟨(some 72), .p .move, [.tmp 71], none⟩,
    ⟨(some 73), .p .move, [.tmp 0], some (72, true)⟩,
    ⟨(some 74), .p .nilCheck, [.tmp 73], some (72, true)⟩,
    ⟨(some 75), .p (.fieldAddr 2), [.tmp 74], some (72, true)⟩,
    ⟨(some 76), .r (.load none), [.tmp 75], some (72, true)⟩,
    ⟨(some 77), .h (.call 55), [.tmp 76], some (72, true)⟩,
    ⟨(some 78), .p .pick, [.tmp 72, .tmp 77, .lit (.bool false)], none⟩,
    ⟨(some 79), .p .move, [.tmp 78], none⟩,
    ⟨(some 80), .p .move, [.tmp 5], some (79, true)⟩,
    ⟨(some 81), .h (.call 56), [.tmp 80], some (79, true)⟩,
    ⟨(some 82), .p .pick, [.tmp 79, .tmp 81, .lit (.bool false)], none⟩,
    ⟨(some 83), .p .move, [.tmp 82], none⟩,
    ⟨(some 84), .p .move, [.tmp 0], some (83, true)⟩,
    ⟨(some 85), .p .nilCheck, [.tmp 84], some (83, true)⟩,
    ⟨(some 86), .p (.fieldAddr 4), [.tmp 85], some (83, true)⟩,
    ⟨(some 87), .r (.load none), [.tmp 86], some (83, true)⟩,
    ⟨(some 88), .h (.call 56), [.tmp 87], some (83, true)⟩,
    ⟨(some 89), .p .pick, [.tmp 83, .tmp 88, .lit (.bool false)], none⟩,
    ⟨(some 90), .p .move, [.tmp 89], none⟩,
    ⟨(some 91), .p .move, [.tmp 6], some (90, true)⟩,
    ⟨(some 92), .h (.call 57), [.tmp 91], some (90, true)⟩,
    ⟨(some 93), .p .pick, [.tmp 90, .tmp 92, .lit (.bool false)], none⟩,
    ⟨(some 94), .p .move, [.tmp 93], none⟩,
    ⟨(some 95), .p .move, [.tmp 0], some (94, true)⟩,
    ⟨(some 96), .p .nilCheck, [.tmp 95], some (94, true)⟩,
    ⟨(some 97), .p (.fieldAddr 6), [.tmp 96], some (94, true)⟩,
    ⟨(some 98), .r (.load none), [.tmp 97], some (94, true)⟩,
    ⟨(some 99), .h (.call 57), [.tmp 98], some (94, true)⟩,
    ⟨(some 100), .p .pick, [.tmp 94, .tmp 99, .lit (.bool false)], none⟩,
    ⟨(some 101), .p .move, [.tmp 100], none⟩,
    ⟨(some 102), .p .move, [.tmp 7], some (101, true)⟩,
    ⟨(some 103), .h (.call 58), [.tmp 102], some (101, true)⟩,
    ⟨(some 104), .p .pick, [.tmp 101, .tmp 103, .lit (.bool false)], none⟩,
    ⟨(some 105), .p .move, [.tmp 104], none⟩,
    ⟨(some 106), .p .move, [.tmp 0], some (105, true)⟩,
    ⟨(some 107), .p .nilCheck, [.tmp 106], some (105, true)⟩,
    ⟨(some 108), .p (.fieldAddr 8), [.tmp 107], some (105, true)⟩,
    ⟨(some 109), .r (.load none), [.tmp 108], some (105, true)⟩,
    ⟨(some 110), .h (.call 58), [.tmp 109], some (105, true)⟩,
    ⟨(some 111), .p .pick, [.tmp 105, .tmp 110, .lit (.bool false)], none⟩,
    ⟨(some 112), .p .move, [.tmp 111], none⟩,
    ⟨(some 113), .p .move, [.tmp 8], some (112, true)⟩,
    ⟨(some 114), .h (.call 59), [.tmp 113], some (112, true)⟩,
    ⟨(some 115), .p .pick, [.tmp 112, .tmp 114, .lit (.bool false)], none⟩,
    ⟨(some 116), .p .move, [.tmp 115], none⟩,
    ⟨(some 117), .p .move, [.tmp 0], some (116, true)⟩,
    ⟨(some 118), .p .nilCheck, [.tmp 117], some (116, true)⟩,
    ⟨(some 119), .p (.fieldAddr 10), [.tmp 118], some (116, true)⟩,
    ⟨(some 120), .r (.load none), [.tmp 119], some (116, true)⟩,
    ⟨(some 121), .h (.call 59), [.tmp 120], some (116, true)⟩,
    ⟨(some 122), .p .pick, [.tmp 116, .tmp 121, .lit (.bool false)], none⟩,
    ⟨(some 123), .p .move, [.tmp 122], none⟩,
    ⟨(some 124), .p .move, [.tmp 9], some (123, true)⟩,
    ⟨(some 125), .h (.call 60), [.tmp 124], some (123, true)⟩,
    ⟨(some 126), .p .pick, [.tmp 123, .tmp 125, .lit (.bool false)], none⟩,
    ⟨(some 127), .p .move, [.tmp 126], none⟩,
    ⟨(some 128), .p .move, [.tmp 0], some (127, true)⟩,
    ⟨(some 129), .p .nilCheck, [.tmp 128], some (127, true)⟩,
    ⟨(some 130), .p (.fieldAddr 12), [.tmp 129], some (127, true)⟩,
    ⟨(some 131), .r (.load none), [.tmp 130], some (127, true)⟩,
    ⟨(some 132), .h (.call 60), [.tmp 131], some (127, true)⟩,
    ⟨(some 133), .p .pick, [.tmp 127, .tmp 132, .lit (.bool false)], none⟩,
    ⟨(some 2), .p .move, [.tmp 133], none⟩])
  .ret))))))))))))))))))))))), [.tmp 2]⟩
theorem c24 : cFunc Go.Proofs.Try.prog false 1 Go.Proofs.Try.f24 = some sf24 := by kernel_rfl

/-- (*rosary/link.Link).may -/
def sf25 : SFunc := ⟨2, 44, (.seq (.reg [⟨(some 3), .a .box, [.tmp 1], none⟩,
    ⟨(some 4), .p .move, [.lit (.bool false)], none⟩])
  (.seq (.dreg [⟨[⟨(some 5), .p .move, [.tmp 0], none⟩,
    ⟨(some 6), .p (.eq true .ptr), [.tmp 5, .lit .nilptr], none⟩,
    ⟨(some 7), .p .move, [.tmp 6], none⟩,
    ⟨(some 8), .p (.fieldAddr 0), [.tmp 3], some (7, true)⟩,
    ⟨(some 9), .r (.load none), [.tmp 8], some (7, true)⟩,
    ⟨(some 10), .p .move, [.tmp 0], some (7, true)⟩,
    ⟨(some 11), .p .nilCheck, [.tmp 10], some (7, true)⟩,
    ⟨(some 12), .p (.fieldAddr 1), [.tmp 11], some (7, true)⟩,
    ⟨(some 13), .r (.load none), [.tmp 12], some (7, true)⟩,
    ⟨(some 14), .p (.bin .eql), [.tmp 9, .tmp 13], some (7, true)⟩,
    ⟨(some 15), .p .pick, [.tmp 7, .tmp 14, .lit (.bool false)], none⟩,
    ⟨(some 16), .p .move, [.tmp 15], none⟩,
    ⟨(some 17), .p (.fieldAddr 1), [.tmp 3], some (16, true)⟩,
    ⟨(some 18), .r (.load none), [.tmp 17], some (16, true)⟩,
    ⟨(some 19), .p .move, [.tmp 0], some (16, true)⟩,
    ⟨(some 20), .p .nilCheck, [.tmp 19], some (16, true)⟩,
    ⟨(some 21), .p (.fieldAddr 0), [.tmp 20], some (16, true)⟩,
    ⟨(some 22), .r (.load none), [.tmp 21], some (16, true)⟩,
    ⟨(some 23), .p (.bin .eql), [.tmp 18, .tmp 22], some (16, true)⟩,
    ⟨(some 24), .p .pick, [.tmp 16, .tmp 23, .lit (.bool false)], none⟩,
    ⟨(some 25), .p .move, [.tmp 24], none⟩,
    ⟨(some 26), .p (.fieldAddr 2), [.tmp 3], some (25, true)⟩,
    ⟨(some 27), .r (.load none), [.tmp 26], some (25, true)⟩,
    ⟨(some 28), .p (.bin .geq), [.tmp 27, .lit (.int .i64 0)], some (25, true)⟩,
    ⟨(some 29), .p .pick, [.tmp 25, .tmp 28, .lit (.bool false)], none⟩,
    ⟨(some 30), .p .move, [.tmp 29], none⟩,
    ⟨(some 31), .p (.fieldAddr 3), [.tmp 3], some (30, true)⟩,
    ⟨(some 32), .r (.load none), [.tmp 31], some (30, true)⟩,
    ⟨(some 33), .p (.bin .geq), [.tmp 32, .lit (.int .i64 0)], some (30, true)⟩,
    ⟨(some 34), .p .pick, [.tmp 30, .tmp 33, .lit (.bool false)], none⟩,
    ⟨(some 35), .p .move, [.tmp 34], none⟩,
    ⟨(some 36), .p (.fieldAddr 3), [.tmp 3], some (35, true)⟩,
    ⟨(some 37), .r (.load none), [.tmp 36], some (35, true)⟩,
    ⟨(some 38), .p .move, [.tmp 0], some (35, true)⟩,
    ⟨(some 39), .p .nilCheck, [.tmp 38], some (35, true)⟩,
    ⟨(some 40), .p (.fieldAddr 3), [.tmp 39], some (35, true)⟩,
    ⟨(some 41), .r (.load none), [.tmp 40], some (35, true)⟩,
    ⟨(some 42), .p (.bin .leq), [.tmp 37, .tmp 41], some (35, true)⟩,
    ⟨(some 43), .p .pick, [.tmp 35, .tmp 42, .lit (.bool false)], none⟩,
    ⟨(some 4), .p .move, [.tmp 43], none⟩], [], none⟩])
  .ret)), [.tmp 4]⟩
theorem c25 : cFunc Go.Proofs.Try.prog false 2 Go.Proofs.Try.f25 = some sf25 := by kernel_rfl

/-- slices.DeleteFunc[[]rosary/link.sent,rosary/link.sent] -/
def sf26 : SFunc := ⟨2, 42, (.seq (.reg [⟨(some 4), .p .move, [.lit .nilslice], none⟩])
  (.seq (.reg [⟨(some 8), .p .move, [.tmp 0], none⟩,
    ⟨(some 9), .p .move, [.tmp 1], none⟩,
    ⟨(some 10), .h (.call 61), [.tmp 8, .tmp 9], none⟩,
    ⟨(some 5), .p .move, [.tmp 10], none⟩])
  (.seq (.seq (.reg [⟨(some 11), .p .move, [.tmp 5], none⟩,
    ⟨(some 12), .p (.bin .eql), [.tmp 11, .lit (.int .i64 (-1))], none⟩])
  (.cond (.tmp 12) (.seq (.reg [⟨(some 13), .p .move, [.tmp 0], none⟩,
    ⟨(some 4), .p .move, [.tmp 13], none⟩])
  .ret)
  .skip))
  (.seq (.seq (.reg [⟨(some 14), .p .move, [.tmp 5], none⟩,
    ⟨(some 15), .p (.bin .add), [.tmp 14, .lit (.int .i64 1)], none⟩,
    ⟨(some 6), .p .move, [.tmp 15], none⟩])
  (.block 0 (.loop [0, 1, 5, 6] (.seq (.seq (.reg [⟨(some 16), .p .move, [.tmp 6], none⟩,
    ⟨(some 17), .p .move, [.tmp 0], none⟩,
    ⟨(some 18), .p .lenSl, [.tmp 17], none⟩,
    ⟨(some 19), .p (.bin .lss), [.tmp 16, .tmp 18], none⟩])
  (.cond (.tmp 19) .skip
  (.exit 0)))
  (.seq (.block 1 (.seq (.reg [⟨(some 22), .p .move, [.tmp 0], none⟩,
    ⟨(some 23), .p .move, [.tmp 6], none⟩,
    ⟨(some 24), .p (.indexAddr 23), [.tmp 22, .tmp 23], none⟩,
    ⟨(some 25), .r (.load (some 23)), [.tmp 24], none⟩,
    ⟨(some 7), .a (.alloc [(.int .i64 0), (.int .i64 0), (.int .i64 0), (.int .i64 0), (.int .i64 0), (.int .i64 0), (.str []), (.str []), (.str []), (.int .i64 0), (.int .i64 0), (.str []), .nilslice, (.bool false), (.str []), (.int .i64 0), (.int .u64 0), (.int .u64 0), (.int .i64 0), .nilslice, (.int .i64 0), (.int .i64 0), (.int .i64 0)]), [], none⟩,
    ⟨none, .h (.store 23), [.tmp 7, .tmp 25], none⟩])
  (.seq (.reg [⟨(some 26), .p .move, [.tmp 1], none⟩,
    ⟨(some 27), .r (.load (some 23)), [.tmp 7], none⟩,
    ⟨(some 28), .h .callV, [.tmp 26, .tmp 27], none⟩,
    ⟨(some 29), .p .not, [.tmp 28], none⟩])
  (.cond (.tmp 29) (.seq (.reg [⟨(some 30), .p .move, [.tmp 0], none⟩,
    ⟨(some 31), .p .move, [.tmp 5], none⟩,
    ⟨(some 32), .r (.load (some 23)), [.tmp 7], none⟩,
    ⟨(some 33), .p (.indexAddr 23), [.tmp 30, .tmp 31], none⟩,
    ⟨none, .h (.store 23), [.tmp 33, .tmp 32], none⟩])
  (.reg [⟨(some 34), .p .move, [.tmp 5], none⟩,
    ⟨(some 35), .p (.bin .add), [.tmp 34, .lit (.int .i64 1)], none⟩,
    ⟨(some 5), .p .move, [.tmp 35], none⟩]))
  .skip))))
  (.reg [⟨(some 20), .p .move, [.tmp 6], none⟩,
    ⟨(some 21), .p (.bin .add), [.tmp 20, .lit (.int .i64 1)], none⟩,
    ⟨(some 6), .p .move, [.tmp 21], none⟩]))))))
  (.seq (.reg [⟨(some 36), .p .move, [.tmp 0], none⟩,
    ⟨(some 37), .p .move, [.tmp 5], none⟩,
    ⟨(some 38), .p (.sliceSl 23 true false false), [.tmp 36, .tmp 37], none⟩,
    ⟨none, .h (.clear [(.int .i64 0), (.int .i64 0), (.int .i64 0), (.int .i64 0), (.int .i64 0), (.int .i64 0), (.str []), (.str []), (.str []), (.int .i64 0), (.int .i64 0), (.str []), .nilslice, (.bool false), (.str []), (.int .i64 0), (.int .u64 0), (.int .u64 0), (.int .i64 0), .nilslice, (.int .i64 0), (.int .i64 0), (.int .i64 0)]), [.tmp 38], none⟩])
  (.seq (.reg [⟨(some 39), .p .move, [.tmp 0], none⟩,
    ⟨(some 40), .p .move, [.tmp 5], none⟩,
    ⟨(some 41), .p (.sliceSl 23 false true false), [.tmp 39, .tmp 40], none⟩,
    ⟨(some 4), .p .move, [.tmp 41], none⟩])
  .ret)))))), [.tmp 4]⟩
theorem c26 : cFunc Go.Proofs.Try.prog false 2 Go.Proofs.Try.f26 = some sf26 := by kernel_rfl

/-- (*rosary/link.Link).Got$1 -/
def sf27 : SFunc := ⟨2, 9, (.seq (.reg [⟨(some 2), .a .box, [.tmp 0], none⟩,
    ⟨(some 3), .p .move, [.lit (.bool false)], none⟩])
  (.seq (.reg [⟨(some 4), .p (.fieldAddr 0), [.tmp 2], none⟩,
    ⟨(some 5), .r (.load none), [.tmp 4], none⟩,
    ⟨(some 6), .p (.fieldAddr 3), [.tmp 1], none⟩,
    ⟨(some 7), .r (.load none), [.tmp 6], none⟩,
    ⟨(some 8), .p (.bin .leq), [.tmp 5, .tmp 7], none⟩,
    ⟨(some 3), .p .move, [.tmp 8], none⟩])
  .ret)), [.tmp 3]⟩
theorem c27 : cFunc Go.Proofs.Try.prog false 2 Go.Proofs.Try.f27 = some sf27 := by kernel_rfl

/-- rosary/link.own -/
def sf28 : SFunc := ⟨1, 14, (.seq (.reg [⟨(some 1), .a .box, [.tmp 0], none⟩,
    ⟨(some 2), .a (.alloc [(.int .i64 0), (.int .i64 0), (.int .i64 0), (.int .i64 0), (.int .i64 0), (.str []), (.str []), (.str []), (.int .i64 0), (.int .i64 0), (.str []), .nilslice, (.bool false), (.str []), (.int .i64 0), (.int .u64 0), (.int .u64 0), (.int .i64 0), .nilslice, (.int .i64 0), (.int .i64 0)]), [], none⟩])
  (.seq (.reg [⟨(some 3), .p (.fieldAddr 18), [.tmp 1], none⟩,
    ⟨(some 4), .r (.load none), [.tmp 3], none⟩,
    ⟨(some 5), .h (.call 62), [.tmp 4], none⟩,
    ⟨(some 6), .p (.fieldAddr 18), [.tmp 1], none⟩,
    ⟨none, .h (.store 1), [.tmp 6, .tmp 5], none⟩])
  (.seq (.reg [⟨(some 7), .p (.fieldAddr 9), [.tmp 1], none⟩,
    ⟨(some 8), .p (.fieldAddr 2), [.tmp 7], none⟩,
    ⟨(some 9), .r (.load none), [.tmp 8], none⟩,
    ⟨(some 10), .h (.call 62), [.tmp 9], none⟩,
    ⟨(some 11), .p (.fieldAddr 9), [.tmp 1], none⟩,
    ⟨(some 12), .p (.fieldAddr 2), [.tmp 11], none⟩,
    ⟨none, .h (.store 1), [.tmp 12, .tmp 10], none⟩])
  (.seq (.reg [⟨(some 13), .r (.load (some 21)), [.tmp 1], none⟩,
    ⟨none, .h (.store 21), [.tmp 2, .tmp 13], none⟩])
  .ret)))), [.cell 2 (some 21)]⟩
theorem c28 : cFunc Go.Proofs.Try.prog false 1 Go.Proofs.Try.f28 = some sf28 := by kernel_rfl

/-- (*rosary/link.Link).packet -/
def sf29 : SFunc := ⟨2, 23, (.seq (.reg [⟨(some 3), .a .box, [.tmp 1], none⟩,
    ⟨(some 4), .a (.alloc [(.int .i64 0), (.int .i64 0), (.int .i64 0), (.int .i64 0), (.int .i64 0), (.int .i64 0), (.int .i64 0), (.int .i64 0), (.int .i64 0), (.str []), (.str []), (.str []), (.int .i64 0), (.int .i64 0), (.str []), .nilslice, (.bool false), (.str []), (.int .i64 0), (.int .u64 0), (.int .u64 0), (.int .i64 0), .nilslice, (.int .i64 0), (.int .i64 0)]), [], none⟩])
  (.seq (.dreg [⟨[⟨(some 5), .p .move, [.tmp 0], none⟩,
    ⟨(some 6), .p .nilCheck, [.tmp 5], none⟩,
    ⟨(some 7), .p (.fieldAddr 0), [.tmp 6], none⟩,
    ⟨(some 8), .r (.load none), [.tmp 7], none⟩,
    ⟨(some 9), .p .move, [.tmp 0], none⟩,
    ⟨(some 10), .p .nilCheck, [.tmp 9], none⟩,
    ⟨(some 11), .p (.fieldAddr 1), [.tmp 10], none⟩,
    ⟨(some 12), .r (.load none), [.tmp 11], none⟩,
    ⟨(some 13), .p (.fieldAddr 0), [.tmp 3], none⟩,
    ⟨(some 14), .r (.load none), [.tmp 13], none⟩,
    ⟨(some 15), .p .move, [.tmp 0], none⟩,
    ⟨(some 16), .p .nilCheck, [.tmp 15], none⟩,
    ⟨(some 17), .p (.fieldAddr 5), [.tmp 16], none⟩,
    ⟨(some 18), .r (.load none), [.tmp 17], none⟩,
    ⟨(some 19), .p (.fieldAddr 1), [.tmp 3], none⟩,
    ⟨(some 20), .r (.load (some 21)), [.tmp 19], none⟩], [], some ⟨(some 21), .h (.call 28), [.tmp 20], none⟩⟩,
   ⟨[⟨(some 22), .p (.build [(.int .i64 0), (.int .i64 0), (.int .i64 0), (.int .i64 0), (.int .i64 0), (.int .i64 0), (.int .i64 0), (.int .i64 0), (.int .i64 0), (.str []), (.str []), (.str []), (.int .i64 0), (.int .i64 0), (.str []), .nilslice, (.bool false), (.str []), (.int .i64 0), (.int .u64 0), (.int .u64 0), (.int .i64 0), .nilslice, (.int .i64 0), (.int .i64 0)] [(0, 1), (1, 1), (2, 1), (3, 1), (4, 21)]), [.tmp 8, .tmp 12, .tmp 14, .tmp 18, .tmp 21], none⟩], [⟨(some 8), .r (.load none), [.tmp 7], none⟩,
    ⟨(some 12), .r (.load none), [.tmp 11], none⟩,
    ⟨(some 14), .r (.load none), [.tmp 13], none⟩,
    ⟨(some 18), .r (.load none), [.tmp 17], none⟩], some ⟨none, .h (.store 25), [.tmp 4, .tmp 22], none⟩⟩,
   ⟨[], [], none⟩])
  .ret)), [.cell 4 (some 25)]⟩
theorem c29 : cFunc Go.Proofs.Try.prog false 2 Go.Proofs.Try.f29 = some sf29 := by kernel_rfl

/-- rosary/rosarybook.SameLetter -/
def sf30 : SFunc := ⟨2, 80, (.seq (.reg [⟨(some 2), .a .box, [.tmp 0], none⟩,
    ⟨(some 3), .a .box, [.tmp 1], none⟩,
    ⟨(some 4), .p .move, [.lit (.bool false)], none⟩])
  (.seq (.reg [⟨(some 5), .p (.fieldAddr 0), [.tmp 2], none⟩,
    ⟨(some 6), .r (.load none), [.tmp 5], none⟩,
    ⟨(some 7), .p (.fieldAddr 0), [.tmp 3], none⟩,
    ⟨(some 8), .r (.load none), [.tmp 7], none⟩,
    ⟨(some 9), .p (.bin .eql), [.tmp 6, .tmp 8], none⟩,
    ⟨(some 10), .p .move, [.tmp 9], none⟩,
    ⟨(some 11), .p (.fieldAddr 1), [.tmp 2], some (10, true)⟩,
    ⟨(some 12), .r (.load none), [.tmp 11], some (10, true)⟩,
    ⟨(some 13), .p (.fieldAddr 1), [.tmp 3], some (10, true)⟩,
    ⟨(some 14), .r (.load none), [.tmp 13], some (10, true)⟩,
    ⟨(some 15), .p (.bin .eql), [.tmp 12, .tmp 14], some (10, true)⟩,
    ⟨(some 16), .p .pick, [.tmp 10, .tmp 15, .lit (.bool false)], none⟩,
    ⟨(some 17), .p .move, [.tmp 16], none⟩,
    ⟨(some 18), .p (.fieldAddr 2), [.tmp 2], some (17, true)⟩,
    ⟨(some 19), .r (.load none), [.tmp 18], some (17, true)⟩,
    ⟨(some 20), .p (.fieldAddr 2), [.tmp 3], some (17, true)⟩,
    ⟨(some 21), .r (.load none), [.tmp 20], some (17, true)⟩,
    ⟨(some 22), .p (.bin .eql), [.tmp 19, .tmp 21], some (17, true)⟩,
    ⟨(some 23), .p .pick, [.tmp 17, .tmp 22, .lit (.bool false)], none⟩,
    ⟨(some 24), .p .move, [.tmp 23], none⟩,
    ⟨(some 25), .p (.fieldAddr 3), [.tmp 2], some (24, true)⟩,
    ⟨(some 26), .r (.load none), [.tmp 25], some (24, true)⟩,
    ⟨(some 27), .p (.fieldAddr 3), [.tmp 3], some (24, true)⟩,
    ⟨(some 28), .r (.load none), [.tmp 27], some (24, true)⟩,
    ⟨(some 29), .p (.bin .eql), [.tmp 26, .tmp 28], some (24, true)⟩,
    ⟨(some 30), .p .pick, [.tmp 24, .tmp 29, .lit (.bool false)], none⟩,
    ⟨(some 31), .p .move, [.tmp 30], none⟩,
    ⟨(some 32), .p (.fieldAddr 4), [.tmp 2], some (31, true)⟩,
    ⟨(some 33), .r (.load (some 5)), [.tmp 32], some (31, true)⟩,
    ⟨(some 34), .p (.fieldAddr 4), [.tmp 3], some (31, true)⟩,
    ⟨(some 35), .r (.load (some 5)), [.tmp 34], some (31, true)⟩,
    ⟨(some 36), .p (.eq false (.agg [.int, .str, .str, .str, .int])), [.tmp 33, .tmp 35], some (31, true)⟩,
    ⟨(some 37), .p .pick, [.tmp 31, .tmp 36, .lit (.bool false)], none⟩,
    ⟨(some 38), .p .move, [.tmp 37], none⟩,
    ⟨(some 39), .p (.fieldAddr 9), [.tmp 2], some (38, true)⟩,
    ⟨(some 40), .r (.load (some 6)), [.tmp 39], some (38, true)⟩,
    ⟨(some 41), .p (.fieldAddr 9), [.tmp 3], some (38, true)⟩,
    ⟨(some 42), .r (.load (some 6)), [.tmp 41], some (38, true)⟩,
    ⟨(some 43), .h (.call 63), [.tmp 40, .tmp 42], some (38, true)⟩,
    ⟨(some 44), .p .pick, [.tmp 38, .tmp 43, .lit (.bool false)], none⟩,
    ⟨(some 45), .p .move, [.tmp 44], none⟩,
    ⟨(some 46), .p (.fieldAddr 15), [.tmp 2], some (45, true)⟩,
    ⟨(some 47), .r (.load (some 2)), [.tmp 46], some (45, true)⟩,
    ⟨(some 48), .p (.fieldAddr 15), [.tmp 3], some (45, true)⟩,
    ⟨(some 49), .r (.load (some 2)), [.tmp 48], some (45, true)⟩,
    ⟨(some 50), .p (.eq false (.agg [.int, .int])), [.tmp 47, .tmp 49], some (45, true)⟩,
    ⟨(some 51), .p .pick, [.tmp 45, .tmp 50, .lit (.bool false)], none⟩,
    ⟨(some 52), .p .move, [.tmp 51], none⟩,
    ⟨(some 53), .p (.fieldAddr 17), [.tmp 2], some (52, true)⟩,
    ⟨(some 54), .r (.load none), [.tmp 53], some (52, true)⟩,
    ⟨(some 55), .p (.fieldAddr 17), [.tmp 3], some (52, true)⟩,
    ⟨(some 56), .r (.load none), [.tmp 55], some (52, true)⟩,
    ⟨(some 57), .p (.bin .eql), [.tmp 54, .tmp 56], some (52, true)⟩,
    ⟨(some 58), .p .pick, [.tmp 52, .tmp 57, .lit (.bool false)], none⟩,
    ⟨(some 59), .p .move, [.tmp 58], none⟩,
    ⟨(some 60), .p (.fieldAddr 18), [.tmp 2], some (59, true)⟩,
    ⟨(some 61), .r (.load none), [.tmp 60], some (59, true)⟩,
    ⟨(some 62), .p (.fieldAddr 18), [.tmp 3], some (59, true)⟩,
    ⟨(some 63), .r (.load none), [.tmp 62], some (59, true)⟩,
    ⟨(some 64), .h (.call 64), [.tmp 61, .tmp 63], some (59, true)⟩,
    ⟨(some 65), .p .pick, [.tmp 59, .tmp 64, .lit (.bool false)], none⟩,
    ⟨(some 66), .p .move, [.tmp 65], none⟩,
    ⟨(some 67), .p (.fieldAddr 19), [.tmp 2], some (66, true)⟩,
    ⟨(some 68), .r (.load none), [.tmp 67], some (66, true)⟩,
    ⟨(some 69), .p (.fieldAddr 19), [.tmp 3], some (66, true)⟩,
    ⟨(some 70), .r (.load none), [.tmp 69], some (66, true)⟩,
    ⟨(some 71), .p (.bin .eql), [.tmp 68, .tmp 70], some (66, true)⟩,
    ⟨(some 72), .p .pick, [.tmp 66, .tmp 71, .lit (.bool false)], none⟩,
    ⟨(some 73), .p .move, [.tmp 72], none⟩,
    ⟨(some 74), .p (.fieldAddr 20), [.tmp 2], some (73, true)⟩,
    ⟨(some 75), .r (.load none), [.tmp 74], some (73, true)⟩,
    ⟨(some 76), .p (.fieldAddr 20), [.tmp 3], some (73, true)⟩,
    ⟨(some 77), .r (.load none), [.tmp 76], some (73, true)⟩,
    ⟨(some 78), .p (.bin .eql), [.tmp 75, .tmp 77], some (73, true)⟩,
    ⟨(some 79), .p .pick, [.tmp 73, .tmp 78, .lit (.bool false)], none⟩,
    ⟨(some 4), .p .move, [.tmp 79], none⟩])
  .ret)), [.tmp 4]⟩
theorem c30 : cFunc Go.Proofs.Try.prog false 2 Go.Proofs.Try.f30 = some sf30 := by kernel_rfl

/-- (*rosary/rosaryref1.Link).kept -/
def sf31 : SFunc := ⟨2, 26, (.seq (.reg [⟨(some 4), .p .move, [.lit (.int .i64 0)], none⟩])
  (.seq (.seq (.reg [⟨(some 5), .p .move, [.lit (.int .i64 0)], none⟩])
  (.block 0 (.loop [0, 1, 5] (.seq (.seq (.reg [⟨(some 6), .p .move, [.tmp 5], none⟩,
    ⟨(some 7), .p .move, [.tmp 0], none⟩,
    ⟨(some 8), .p .nilCheck, [.tmp 7], none⟩,
    ⟨(some 9), .p (.fieldAddr 5), [.tmp 8], none⟩,
    ⟨(some 10), .r (.load none), [.tmp 9], none⟩,
    ⟨(some 11), .p .lenSl, [.tmp 10], none⟩,
    ⟨(some 12), .p (.bin .lss), [.tmp 6, .tmp 11], none⟩])
  (.cond (.tmp 12) .skip
  (.exit 0)))
  (.seq (.block 1 (.seq (.reg [⟨(some 15), .p .move, [.tmp 0], none⟩,
    ⟨(some 16), .p .nilCheck, [.tmp 15], none⟩,
    ⟨(some 17), .p (.fieldAddr 5), [.tmp 16], none⟩,
    ⟨(some 18), .r (.load none), [.tmp 17], none⟩,
    ⟨(some 19), .p .move, [.tmp 5], none⟩,
    ⟨(some 20), .p (.indexAddr 25), [.tmp 18, .tmp 19], none⟩,
    ⟨(some 21), .p (.fieldAddr 2), [.tmp 20], none⟩,
    ⟨(some 22), .r (.load none), [.tmp 21], none⟩,
    ⟨(some 23), .p .move, [.tmp 1], none⟩,
    ⟨(some 24), .p (.bin .eql), [.tmp 22, .tmp 23], none⟩])
  (.cond (.tmp 24) (.seq (.reg [⟨(some 25), .p .move, [.tmp 5], none⟩,
    ⟨(some 4), .p .move, [.tmp 25], none⟩])
  .ret)
  .skip)))
  (.reg [⟨(some 13), .p .move, [.tmp 5], none⟩,
    ⟨(some 14), .p (.bin .add), [.tmp 13, .lit (.int .i64 1)], none⟩,
    ⟨(some 5), .p .move, [.tmp 14], none⟩]))))))
  (.seq (.reg [⟨(some 4), .p .move, [.lit (.int .i64 (-1))], none⟩])
  .ret))), [.tmp 4]⟩
theorem c31 : cFunc Go.Proofs.Try.prog false 2 Go.Proofs.Try.f31 = some sf31 := by kernel_rfl

/-- rosary/rosarybook.copyLetters -/
def sf32 : SFunc := ⟨1, 35, (.seq (.reg [⟨(some 2), .p .move, [.lit .nilslice], none⟩])
  (.seq (.reg [⟨(some 4), .p .move, [.tmp 0], none⟩,
    ⟨(some 5), .h (.append 21 false), [.lit .nilslice, .tmp 4], none⟩,
    ⟨(some 0), .p .move, [.tmp 5], none⟩])
  (.seq (.seq (.reg [⟨(some 3), .p .move, [.lit (.int .i64 0)], none⟩])
  (.block 0 (.loop [0, 3] (.seq (.seq (.reg [⟨(some 6), .p .move, [.tmp 3], none⟩,
    ⟨(some 7), .p .move, [.tmp 0], none⟩,
    ⟨(some 8), .p .lenSl, [.tmp 7], none⟩,
    ⟨(some 9), .p (.bin .lss), [.tmp 6, .tmp 8], none⟩])
  (.cond (.tmp 9) .skip
  (.exit 0)))
  (.seq (.block 1 (.dreg [⟨[⟨(some 12), .p .move, [.tmp 0], none⟩,
    ⟨(some 13), .p .move, [.tmp 3], none⟩,
    ⟨(some 14), .p .move, [.tmp 0], none⟩,
    ⟨(some 15), .p .move, [.tmp 3], none⟩,
    ⟨(some 16), .p .move, [.tmp 0], none⟩,
    ⟨(some 17), .p .move, [.tmp 3], none⟩,
    ⟨(some 18), .p (.indexAddr 21), [.tmp 16, .tmp 17], none⟩,
    ⟨(some 19), .p (.fieldAddr 18), [.tmp 18], none⟩,
    ⟨(some 20), .r (.load none), [.tmp 19], none⟩,
    ⟨(some 22), .p .move, [.tmp 0], none⟩,
    ⟨(some 23), .p .move, [.tmp 3], none⟩,
    ⟨(some 24), .p (.indexAddr 21), [.tmp 22, .tmp 23], none⟩,
    ⟨(some 25), .p (.fieldAddr 9), [.tmp 24], none⟩,
    ⟨(some 26), .p (.fieldAddr 2), [.tmp 25], none⟩,
    ⟨(some 27), .r (.load none), [.tmp 26], none⟩], [], some ⟨(some 21), .h (.call 65), [.tmp 20], none⟩⟩,
   ⟨[], [⟨(some 27), .r (.load none), [.tmp 26], none⟩], some ⟨(some 28), .h (.call 65), [.tmp 27], none⟩⟩,
   ⟨[⟨(some 29), .p (.indexAddr 21), [.tmp 12, .tmp 13], none⟩,
    ⟨(some 30), .p (.fieldAddr 18), [.tmp 29], none⟩], [], some ⟨none, .h (.store 1), [.tmp 30, .tmp 21], none⟩⟩,
   ⟨[⟨(some 31), .p (.indexAddr 21), [.tmp 14, .tmp 15], none⟩,
    ⟨(some 32), .p (.fieldAddr 9), [.tmp 31], none⟩,
    ⟨(some 33), .p (.fieldAddr 2), [.tmp 32], none⟩], [], some ⟨none, .h (.store 1), [.tmp 33, .tmp 28], none⟩⟩,
   ⟨[], [], none⟩]))
  (.reg [⟨(some 10), .p .move, [.tmp 3], none⟩,
    ⟨(some 11), .p (.bin .add), [.tmp 10, .lit (.int .i64 1)], none⟩,
    ⟨(some 3), .p .move, [.tmp 11], none⟩]))))))
  (.seq (.reg [⟨(some 34), .p .move, [.tmp 0], none⟩,
    ⟨(some 2), .p .move, [.tmp 34], none⟩])
  .ret)))), [.tmp 2]⟩
theorem c32 : cFunc Go.Proofs.Try.prog false 1 Go.Proofs.Try.f32 = some sf32 := by kernel_rfl

/-- (*rosary/rosarybook.Book).stillTexts -/
def sf33 : SFunc := ⟨1, 29, (.seq (.reg [⟨(some 2), .p .move, [.lit (.bool false)], none⟩])
  (.seq (.seq (.reg [⟨(some 3), .p .move, [.lit (.int .i64 0)], none⟩])
  (.block 0 (.loop [0, 3] (.seq (.seq (.reg [⟨(some 4), .p .move, [.tmp 3], none⟩,
    ⟨(some 5), .p .move, [.tmp 0], none⟩,
    ⟨(some 6), .p .nilCheck, [.tmp 5], none⟩,
    ⟨(some 7), .p (.fieldAddr 0), [.tmp 6], none⟩,
    ⟨(some 8), .r (.load none), [.tmp 7], none⟩,
    ⟨(some 9), .p .lenSl, [.tmp 8], none⟩,
    ⟨(some 10), .p (.bin .lss), [.tmp 4, .tmp 9], none⟩])
  (.cond (.tmp 10) .skip
  (.exit 0)))
  (.seq (.block 1 (.seq (.dreg [⟨[⟨(some 13), .p .move, [.tmp 0], none⟩,
    ⟨(some 14), .p .nilCheck, [.tmp 13], none⟩,
    ⟨(some 15), .p (.fieldAddr 0), [.tmp 14], none⟩,
    ⟨(some 16), .r (.load none), [.tmp 15], none⟩,
    ⟨(some 17), .p .move, [.tmp 3], none⟩,
    ⟨(some 18), .p (.indexAddr 1), [.tmp 16, .tmp 17], none⟩,
    ⟨(some 19), .r (.load none), [.tmp 18], none⟩,
    ⟨(some 20), .p .move, [.tmp 0], none⟩,
    ⟨(some 21), .p .nilCheck, [.tmp 20], none⟩,
    ⟨(some 22), .p (.fieldAddr 1), [.tmp 21], none⟩,
    ⟨(some 23), .r (.load none), [.tmp 22], none⟩,
    ⟨(some 24), .p .move, [.tmp 3], none⟩,
    ⟨(some 25), .p (.indexAddr 1), [.tmp 23, .tmp 24], none⟩,
    ⟨(some 26), .r (.load none), [.tmp 25], none⟩], [], some ⟨(some 27), .h (.call 66), [.tmp 19, .tmp 26], none⟩⟩,
   ⟨[⟨(some 28), .p .not, [.tmp 27], none⟩], [], none⟩])
  (.cond (.tmp 28) (.seq (.reg [⟨(some 2), .p .move, [.lit (.bool false)], none⟩])
  .ret)
  .skip)))
  (.reg [⟨(some 11), .p .move, [.tmp 3], none⟩,
    ⟨(some 12), .p (.bin .add), [.tmp 11, .lit (.int .i64 1)], none⟩,
    ⟨(some 3), .p .move, [.tmp 12], none⟩]))))))
  (.seq (.reg [⟨(some 2), .p .move, [.lit (.bool true)], none⟩])
  .ret))), [.tmp 2]⟩
theorem c33 : cFunc Go.Proofs.Try.prog false 1 Go.Proofs.Try.f33 = some sf33 := by kernel_rfl

/-- (*rosary/rosarybook.Book).stillInts -/
def sf34 : SFunc := ⟨1, 29, (.seq (.reg [⟨(some 2), .p .move, [.lit (.bool false)], none⟩])
  (.seq (.seq (.reg [⟨(some 3), .p .move, [.lit (.int .i64 0)], none⟩])
  (.block 0 (.loop [0, 3] (.seq (.seq (.reg [⟨(some 4), .p .move, [.tmp 3], none⟩,
    ⟨(some 5), .p .move, [.tmp 0], none⟩,
    ⟨(some 6), .p .nilCheck, [.tmp 5], none⟩,
    ⟨(some 7), .p (.fieldAddr 2), [.tmp 6], none⟩,
    ⟨(some 8), .r (.load none), [.tmp 7], none⟩,
    ⟨(some 9), .p .lenSl, [.tmp 8], none⟩,
    ⟨(some 10), .p (.bin .lss), [.tmp 4, .tmp 9], none⟩])
  (.cond (.tmp 10) .skip
  (.exit 0)))
  (.seq (.block 1 (.seq (.dreg [⟨[⟨(some 13), .p .move, [.tmp 0], none⟩,
    ⟨(some 14), .p .nilCheck, [.tmp 13], none⟩,
    ⟨(some 15), .p (.fieldAddr 2), [.tmp 14], none⟩,
    ⟨(some 16), .r (.load none), [.tmp 15], none⟩,
    ⟨(some 17), .p .move, [.tmp 3], none⟩,
    ⟨(some 18), .p (.indexAddr 1), [.tmp 16, .tmp 17], none⟩,
    ⟨(some 19), .r (.load none), [.tmp 18], none⟩,
    ⟨(some 20), .p .move, [.tmp 0], none⟩,
    ⟨(some 21), .p .nilCheck, [.tmp 20], none⟩,
    ⟨(some 22), .p (.fieldAddr 3), [.tmp 21], none⟩,
    ⟨(some 23), .r (.load none), [.tmp 22], none⟩,
    ⟨(some 24), .p .move, [.tmp 3], none⟩,
    ⟨(some 25), .p (.indexAddr 1), [.tmp 23, .tmp 24], none⟩,
    ⟨(some 26), .r (.load none), [.tmp 25], none⟩], [], some ⟨(some 27), .h (.call 67), [.tmp 19, .tmp 26], none⟩⟩,
   ⟨[⟨(some 28), .p .not, [.tmp 27], none⟩], [], none⟩])
  (.cond (.tmp 28) (.seq (.reg [⟨(some 2), .p .move, [.lit (.bool false)], none⟩])
  .ret)
  .skip)))
  (.reg [⟨(some 11), .p .move, [.tmp 3], none⟩,
    ⟨(some 12), .p (.bin .add), [.tmp 11, .lit (.int .i64 1)], none⟩,
    ⟨(some 3), .p .move, [.tmp 12], none⟩]))))))
  (.seq (.reg [⟨(some 2), .p .move, [.lit (.bool true)], none⟩])
  .ret))), [.tmp 2]⟩
theorem c34 : cFunc Go.Proofs.Try.prog false 1 Go.Proofs.Try.f34 = some sf34 := by kernel_rfl

/-- (*rosary/rosarybook.Book).stillPoints -/
def sf35 : SFunc := ⟨1, 29, (.seq (.reg [⟨(some 2), .p .move, [.lit (.bool false)], none⟩])
  (.seq (.seq (.reg [⟨(some 3), .p .move, [.lit (.int .i64 0)], none⟩])
  (.block 0 (.loop [0, 3] (.seq (.seq (.reg [⟨(some 4), .p .move, [.tmp 3], none⟩,
    ⟨(some 5), .p .move, [.tmp 0], none⟩,
    ⟨(some 6), .p .nilCheck, [.tmp 5], none⟩,
    ⟨(some 7), .p (.fieldAddr 4), [.tmp 6], none⟩,
    ⟨(some 8), .r (.load none), [.tmp 7], none⟩,
    ⟨(some 9), .p .lenSl, [.tmp 8], none⟩,
    ⟨(some 10), .p (.bin .lss), [.tmp 4, .tmp 9], none⟩])
  (.cond (.tmp 10) .skip
  (.exit 0)))
  (.seq (.block 1 (.seq (.dreg [⟨[⟨(some 13), .p .move, [.tmp 0], none⟩,
    ⟨(some 14), .p .nilCheck, [.tmp 13], none⟩,
    ⟨(some 15), .p (.fieldAddr 4), [.tmp 14], none⟩,
    ⟨(some 16), .r (.load none), [.tmp 15], none⟩,
    ⟨(some 17), .p .move, [.tmp 3], none⟩,
    ⟨(some 18), .p (.indexAddr 1), [.tmp 16, .tmp 17], none⟩,
    ⟨(some 19), .r (.load none), [.tmp 18], none⟩,
    ⟨(some 20), .p .move, [.tmp 0], none⟩,
    ⟨(some 21), .p .nilCheck, [.tmp 20], none⟩,
    ⟨(some 22), .p (.fieldAddr 5), [.tmp 21], none⟩,
    ⟨(some 23), .r (.load none), [.tmp 22], none⟩,
    ⟨(some 24), .p .move, [.tmp 3], none⟩,
    ⟨(some 25), .p (.indexAddr 1), [.tmp 23, .tmp 24], none⟩,
    ⟨(some 26), .r (.load none), [.tmp 25], none⟩], [], some ⟨(some 27), .h (.call 68), [.tmp 19, .tmp 26], none⟩⟩,
   ⟨[⟨(some 28), .p .not, [.tmp 27], none⟩], [], none⟩])
  (.cond (.tmp 28) (.seq (.reg [⟨(some 2), .p .move, [.lit (.bool false)], none⟩])
  .ret)
  .skip)))
  (.reg [⟨(some 11), .p .move, [.tmp 3], none⟩,
    ⟨(some 12), .p (.bin .add), [.tmp 11, .lit (.int .i64 1)], none⟩,
    ⟨(some 3), .p .move, [.tmp 12], none⟩]))))))
  (.seq (.reg [⟨(some 2), .p .move, [.lit (.bool true)], none⟩])
  .ret))), [.tmp 2]⟩
theorem c35 : cFunc Go.Proofs.Try.prog false 1 Go.Proofs.Try.f35 = some sf35 := by kernel_rfl

/-- (*rosary/rosarybook.Book).stillItems -/
def sf36 : SFunc := ⟨1, 29, (.seq (.reg [⟨(some 2), .p .move, [.lit (.bool false)], none⟩])
  (.seq (.seq (.reg [⟨(some 3), .p .move, [.lit (.int .i64 0)], none⟩])
  (.block 0 (.loop [0, 3] (.seq (.seq (.reg [⟨(some 4), .p .move, [.tmp 3], none⟩,
    ⟨(some 5), .p .move, [.tmp 0], none⟩,
    ⟨(some 6), .p .nilCheck, [.tmp 5], none⟩,
    ⟨(some 7), .p (.fieldAddr 6), [.tmp 6], none⟩,
    ⟨(some 8), .r (.load none), [.tmp 7], none⟩,
    ⟨(some 9), .p .lenSl, [.tmp 8], none⟩,
    ⟨(some 10), .p (.bin .lss), [.tmp 4, .tmp 9], none⟩])
  (.cond (.tmp 10) .skip
  (.exit 0)))
  (.seq (.block 1 (.seq (.dreg [⟨[⟨(some 13), .p .move, [.tmp 0], none⟩,
    ⟨(some 14), .p .nilCheck, [.tmp 13], none⟩,
    ⟨(some 15), .p (.fieldAddr 6), [.tmp 14], none⟩,
    ⟨(some 16), .r (.load none), [.tmp 15], none⟩,
    ⟨(some 17), .p .move, [.tmp 3], none⟩,
    ⟨(some 18), .p (.indexAddr 1), [.tmp 16, .tmp 17], none⟩,
    ⟨(some 19), .r (.load none), [.tmp 18], none⟩,
    ⟨(some 20), .p .move, [.tmp 0], none⟩,
    ⟨(some 21), .p .nilCheck, [.tmp 20], none⟩,
    ⟨(some 22), .p (.fieldAddr 7), [.tmp 21], none⟩,
    ⟨(some 23), .r (.load none), [.tmp 22], none⟩,
    ⟨(some 24), .p .move, [.tmp 3], none⟩,
    ⟨(some 25), .p (.indexAddr 1), [.tmp 23, .tmp 24], none⟩,
    ⟨(some 26), .r (.load none), [.tmp 25], none⟩], [], some ⟨(some 27), .h (.call 64), [.tmp 19, .tmp 26], none⟩⟩,
   ⟨[⟨(some 28), .p .not, [.tmp 27], none⟩], [], none⟩])
  (.cond (.tmp 28) (.seq (.reg [⟨(some 2), .p .move, [.lit (.bool false)], none⟩])
  .ret)
  .skip)))
  (.reg [⟨(some 11), .p .move, [.tmp 3], none⟩,
    ⟨(some 12), .p (.bin .add), [.tmp 11, .lit (.int .i64 1)], none⟩,
    ⟨(some 3), .p .move, [.tmp 12], none⟩]))))))
  (.seq (.reg [⟨(some 2), .p .move, [.lit (.bool true)], none⟩])
  .ret))), [.tmp 2]⟩
theorem c36 : cFunc Go.Proofs.Try.prog false 1 Go.Proofs.Try.f36 = some sf36 := by kernel_rfl

/-- (*rosary/rosarybook.Book).stillOwneds -/
def sf37 : SFunc := ⟨1, 29, (.seq (.reg [⟨(some 2), .p .move, [.lit (.bool false)], none⟩])
  (.seq (.seq (.reg [⟨(some 3), .p .move, [.lit (.int .i64 0)], none⟩])
  (.block 0 (.loop [0, 3] (.seq (.seq (.reg [⟨(some 4), .p .move, [.tmp 3], none⟩,
    ⟨(some 5), .p .move, [.tmp 0], none⟩,
    ⟨(some 6), .p .nilCheck, [.tmp 5], none⟩,
    ⟨(some 7), .p (.fieldAddr 8), [.tmp 6], none⟩,
    ⟨(some 8), .r (.load none), [.tmp 7], none⟩,
    ⟨(some 9), .p .lenSl, [.tmp 8], none⟩,
    ⟨(some 10), .p (.bin .lss), [.tmp 4, .tmp 9], none⟩])
  (.cond (.tmp 10) .skip
  (.exit 0)))
  (.seq (.block 1 (.seq (.dreg [⟨[⟨(some 13), .p .move, [.tmp 0], none⟩,
    ⟨(some 14), .p .nilCheck, [.tmp 13], none⟩,
    ⟨(some 15), .p (.fieldAddr 8), [.tmp 14], none⟩,
    ⟨(some 16), .r (.load none), [.tmp 15], none⟩,
    ⟨(some 17), .p .move, [.tmp 3], none⟩,
    ⟨(some 18), .p (.indexAddr 1), [.tmp 16, .tmp 17], none⟩,
    ⟨(some 19), .r (.load none), [.tmp 18], none⟩,
    ⟨(some 20), .p .move, [.tmp 0], none⟩,
    ⟨(some 21), .p .nilCheck, [.tmp 20], none⟩,
    ⟨(some 22), .p (.fieldAddr 9), [.tmp 21], none⟩,
    ⟨(some 23), .r (.load none), [.tmp 22], none⟩,
    ⟨(some 24), .p .move, [.tmp 3], none⟩,
    ⟨(some 25), .p (.indexAddr 1), [.tmp 23, .tmp 24], none⟩,
    ⟨(some 26), .r (.load none), [.tmp 25], none⟩], [], some ⟨(some 27), .h (.call 69), [.tmp 19, .tmp 26], none⟩⟩,
   ⟨[⟨(some 28), .p .not, [.tmp 27], none⟩], [], none⟩])
  (.cond (.tmp 28) (.seq (.reg [⟨(some 2), .p .move, [.lit (.bool false)], none⟩])
  .ret)
  .skip)))
  (.reg [⟨(some 11), .p .move, [.tmp 3], none⟩,
    ⟨(some 12), .p (.bin .add), [.tmp 11, .lit (.int .i64 1)], none⟩,
    ⟨(some 3), .p .move, [.tmp 12], none⟩]))))))
  (.seq (.reg [⟨(some 2), .p .move, [.lit (.bool true)], none⟩])
  .ret))), [.tmp 2]⟩
theorem c37 : cFunc Go.Proofs.Try.prog false 1 Go.Proofs.Try.f37 = some sf37 := by kernel_rfl

/-- (*rosary/rosarybook.Book).stillEvents -/
def sf38 : SFunc := ⟨1, 29, (.seq (.reg [⟨(some 2), .p .move, [.lit (.bool false)], none⟩])
  (.seq (.seq (.reg [⟨(some 3), .p .move, [.lit (.int .i64 0)], none⟩])
  (.block 0 (.loop [0, 3] (.seq (.seq (.reg [⟨(some 4), .p .move, [.tmp 3], none⟩,
    ⟨(some 5), .p .move, [.tmp 0], none⟩,
    ⟨(some 6), .p .nilCheck, [.tmp 5], none⟩,
    ⟨(some 7), .p (.fieldAddr 10), [.tmp 6], none⟩,
    ⟨(some 8), .r (.load none), [.tmp 7], none⟩,
    ⟨(some 9), .p .lenSl, [.tmp 8], none⟩,
    ⟨(some 10), .p (.bin .lss), [.tmp 4, .tmp 9], none⟩])
  (.cond (.tmp 10) .skip
  (.exit 0)))
  (.seq (.block 1 (.seq (.dreg [⟨[⟨(some 13), .p .move, [.tmp 0], none⟩,
    ⟨(some 14), .p .nilCheck, [.tmp 13], none⟩,
    ⟨(some 15), .p (.fieldAddr 10), [.tmp 14], none⟩,
    ⟨(some 16), .r (.load none), [.tmp 15], none⟩,
    ⟨(some 17), .p .move, [.tmp 3], none⟩,
    ⟨(some 18), .p (.indexAddr 1), [.tmp 16, .tmp 17], none⟩,
    ⟨(some 19), .r (.load none), [.tmp 18], none⟩,
    ⟨(some 20), .p .move, [.tmp 0], none⟩,
    ⟨(some 21), .p .nilCheck, [.tmp 20], none⟩,
    ⟨(some 22), .p (.fieldAddr 11), [.tmp 21], none⟩,
    ⟨(some 23), .r (.load none), [.tmp 22], none⟩,
    ⟨(some 24), .p .move, [.tmp 3], none⟩,
    ⟨(some 25), .p (.indexAddr 1), [.tmp 23, .tmp 24], none⟩,
    ⟨(some 26), .r (.load none), [.tmp 25], none⟩], [], some ⟨(some 27), .h (.call 70), [.tmp 19, .tmp 26], none⟩⟩,
   ⟨[⟨(some 28), .p .not, [.tmp 27], none⟩], [], none⟩])
  (.cond (.tmp 28) (.seq (.reg [⟨(some 2), .p .move, [.lit (.bool false)], none⟩])
  .ret)
  .skip)))
  (.reg [⟨(some 11), .p .move, [.tmp 3], none⟩,
    ⟨(some 12), .p (.bin .add), [.tmp 11, .lit (.int .i64 1)], none⟩,
    ⟨(some 3), .p .move, [.tmp 12], none⟩]))))))
  (.seq (.reg [⟨(some 2), .p .move, [.lit (.bool true)], none⟩])
  .ret))), [.tmp 2]⟩
theorem c38 : cFunc Go.Proofs.Try.prog false 1 Go.Proofs.Try.f38 = some sf38 := by kernel_rfl

/-- (*rosary/rosarybook.Book).stillLetters -/
def sf39 : SFunc := ⟨1, 29, (.seq (.reg [⟨(some 2), .p .move, [.lit (.bool false)], none⟩])
  (.seq (.seq (.reg [⟨(some 3), .p .move, [.lit (.int .i64 0)], none⟩])
  (.block 0 (.loop [0, 3] (.seq (.seq (.reg [⟨(some 4), .p .move, [.tmp 3], none⟩,
    ⟨(some 5), .p .move, [.tmp 0], none⟩,
    ⟨(some 6), .p .nilCheck, [.tmp 5], none⟩,
    ⟨(some 7), .p (.fieldAddr 12), [.tmp 6], none⟩,
    ⟨(some 8), .r (.load none), [.tmp 7], none⟩,
    ⟨(some 9), .p .lenSl, [.tmp 8], none⟩,
    ⟨(some 10), .p (.bin .lss), [.tmp 4, .tmp 9], none⟩])
  (.cond (.tmp 10) .skip
  (.exit 0)))
  (.seq (.block 1 (.seq (.dreg [⟨[⟨(some 13), .p .move, [.tmp 0], none⟩,
    ⟨(some 14), .p .nilCheck, [.tmp 13], none⟩,
    ⟨(some 15), .p (.fieldAddr 12), [.tmp 14], none⟩,
    ⟨(some 16), .r (.load none), [.tmp 15], none⟩,
    ⟨(some 17), .p .move, [.tmp 3], none⟩,
    ⟨(some 18), .p (.indexAddr 1), [.tmp 16, .tmp 17], none⟩,
    ⟨(some 19), .r (.load none), [.tmp 18], none⟩,
    ⟨(some 20), .p .move, [.tmp 0], none⟩,
    ⟨(some 21), .p .nilCheck, [.tmp 20], none⟩,
    ⟨(some 22), .p (.fieldAddr 13), [.tmp 21], none⟩,
    ⟨(some 23), .r (.load none), [.tmp 22], none⟩,
    ⟨(some 24), .p .move, [.tmp 3], none⟩,
    ⟨(some 25), .p (.indexAddr 1), [.tmp 23, .tmp 24], none⟩,
    ⟨(some 26), .r (.load none), [.tmp 25], none⟩], [], some ⟨(some 27), .h (.call 23), [.tmp 19, .tmp 26], none⟩⟩,
   ⟨[⟨(some 28), .p .not, [.tmp 27], none⟩], [], none⟩])
  (.cond (.tmp 28) (.seq (.reg [⟨(some 2), .p .move, [.lit (.bool false)], none⟩])
  .ret)
  .skip)))
  (.reg [⟨(some 11), .p .move, [.tmp 3], none⟩,
    ⟨(some 12), .p (.bin .add), [.tmp 11, .lit (.int .i64 1)], none⟩,
    ⟨(some 3), .p .move, [.tmp 12], none⟩]))))))
  (.seq (.reg [⟨(some 2), .p .move, [.lit (.bool true)], none⟩])
  .ret))), [.tmp 2]⟩
theorem c39 : cFunc Go.Proofs.Try.prog false 1 Go.Proofs.Try.f39 = some sf39 := by kernel_rfl

/-- (*rosary/rosarybook.Book).putEvents -/
def sf40 : SFunc := ⟨1, 43, (.seq (.reg [⟨(some 2), .p .move, [.lit (.int .i64 0)], none⟩])
  (.block 0 (.loop [0, 2] (.seq (.seq (.reg [⟨(some 5), .p .move, [.tmp 2], none⟩,
    ⟨(some 6), .p .move, [.tmp 0], none⟩,
    ⟨(some 7), .p .nilCheck, [.tmp 6], none⟩,
    ⟨(some 8), .p (.fieldAddr 10), [.tmp 7], none⟩,
    ⟨(some 9), .r (.load none), [.tmp 8], none⟩,
    ⟨(some 10), .p .lenSl, [.tmp 9], none⟩,
    ⟨(some 11), .p (.bin .lss), [.tmp 5, .tmp 10], none⟩])
  (.cond (.tmp 11) .skip
  (.exit 0)))
  (.seq (.block 1 (.seq (.reg [⟨(some 14), .p .move, [.tmp 2], none⟩,
    ⟨(some 15), .p .move, [.tmp 0], none⟩,
    ⟨(some 16), .p .nilCheck, [.tmp 15], none⟩,
    ⟨(some 17), .p (.fieldAddr 10), [.tmp 16], none⟩,
    ⟨(some 18), .r (.load none), [.tmp 17], none⟩,
    ⟨(some 19), .p .move, [.tmp 2], none⟩,
    ⟨(some 20), .p (.indexAddr 1), [.tmp 18, .tmp 19], none⟩,
    ⟨(some 21), .r (.load none), [.tmp 20], none⟩,
    ⟨(some 22), .p .lenSl, [.tmp 21], none⟩,
    ⟨(some 23), .h (.call 71), [.tmp 14, .lit (.int .i64 0), .tmp 22], none⟩,
    ⟨(some 3), .p .move, [.tmp 23], none⟩])
  (.seq (.reg [⟨(some 4), .p .move, [.lit (.int .i64 0)], none⟩])
  (.block 2 (.loop [0, 2, 3, 4] (.seq (.seq (.reg [⟨(some 24), .p .move, [.tmp 4], none⟩,
    ⟨(some 25), .p .move, [.tmp 3], none⟩,
    ⟨(some 26), .p .lenSl, [.tmp 25], none⟩,
    ⟨(some 27), .p (.bin .lss), [.tmp 24, .tmp 26], none⟩])
  (.cond (.tmp 27) .skip
  (.exit 2)))
  (.seq (.block 3 (.dreg [⟨[⟨(some 30), .p .move, [.tmp 0], none⟩,
    ⟨(some 31), .p .nilCheck, [.tmp 30], none⟩,
    ⟨(some 32), .p (.fieldAddr 10), [.tmp 31], none⟩,
    ⟨(some 33), .r (.load none), [.tmp 32], none⟩,
    ⟨(some 34), .p .move, [.tmp 2], none⟩,
    ⟨(some 35), .p (.indexAddr 1), [.tmp 33, .tmp 34], none⟩,
    ⟨(some 36), .r (.load none), [.tmp 35], none⟩,
    ⟨(some 37), .p .move, [.tmp 4], none⟩,
    ⟨(some 38), .p .move, [.tmp 3], none⟩,
    ⟨(some 39), .p .move, [.tmp 4], none⟩,
    ⟨(some 40), .p (.indexAddr 15), [.tmp 38, .tmp 39], none⟩,
    ⟨(some 41), .r (.load (some 15)), [.tmp 40], none⟩,
    ⟨(some 42), .p (.indexAddr 15), [.tmp 36, .tmp 37], none⟩], [], some ⟨none, .h (.store 15), [.tmp 42, .tmp 41], none⟩⟩,
   ⟨[], [], none⟩]))
  (.reg [⟨(some 28), .p .move, [.tmp 4], none⟩,
    ⟨(some 29), .p (.bin .add), [.tmp 28, .lit (.int .i64 1)], none⟩,
    ⟨(some 4), .p .move, [.tmp 29], none⟩]))))))))
  (.reg [⟨(some 12), .p .move, [.tmp 2], none⟩,
    ⟨(some 13), .p (.bin .add), [.tmp 12, .lit (.int .i64 1)], none⟩,
    ⟨(some 2), .p .move, [.tmp 13], none⟩])))))), []⟩
theorem c40 : cFunc Go.Proofs.Try.prog false 1 Go.Proofs.Try.f40 = some sf40 := by kernel_rfl

/-- (*rosary/rosarybook.Book).putLetters -/
def sf41 : SFunc := ⟨1, 43, (.seq (.reg [⟨(some 2), .p .move, [.lit (.int .i64 0)], none⟩])
  (.block 0 (.loop [0, 2] (.seq (.seq (.reg [⟨(some 5), .p .move, [.tmp 2], none⟩,
    ⟨(some 6), .p .move, [.tmp 0], none⟩,
    ⟨(some 7), .p .nilCheck, [.tmp 6], none⟩,
    ⟨(some 8), .p (.fieldAddr 12), [.tmp 7], none⟩,
    ⟨(some 9), .r (.load none), [.tmp 8], none⟩,
    ⟨(some 10), .p .lenSl, [.tmp 9], none⟩,
    ⟨(some 11), .p (.bin .lss), [.tmp 5, .tmp 10], none⟩])
  (.cond (.tmp 11) .skip
  (.exit 0)))
  (.seq (.block 1 (.seq (.reg [⟨(some 14), .p .move, [.tmp 2], none⟩,
    ⟨(some 15), .p .move, [.tmp 0], none⟩,
    ⟨(some 16), .p .nilCheck, [.tmp 15], none⟩,
    ⟨(some 17), .p (.fieldAddr 12), [.tmp 16], none⟩,
    ⟨(some 18), .r (.load none), [.tmp 17], none⟩,
    ⟨(some 19), .p .move, [.tmp 2], none⟩,
    ⟨(some 20), .p (.indexAddr 1), [.tmp 18, .tmp 19], none⟩,
    ⟨(some 21), .r (.load none), [.tmp 20], none⟩,
    ⟨(some 22), .p .lenSl, [.tmp 21], none⟩,
    ⟨(some 23), .h (.call 72), [.tmp 14, .lit (.int .i64 0), .tmp 22], none⟩,
    ⟨(some 3), .p .move, [.tmp 23], none⟩])
  (.seq (.reg [⟨(some 4), .p .move, [.lit (.int .i64 0)], none⟩])
  (.block 2 (.loop [0, 2, 3, 4] (.seq (.seq (.reg [⟨(some 24), .p .move, [.tmp 4], none⟩,
    ⟨(some 25), .p .move, [.tmp 3], none⟩,
    ⟨(some 26), .p .lenSl, [.tmp 25], none⟩,
    ⟨(some 27), .p (.bin .lss), [.tmp 24, .tmp 26], none⟩])
  (.cond (.tmp 27) .skip
  (.exit 2)))
  (.seq (.block 3 (.dreg [⟨[⟨(some 30), .p .move, [.tmp 0], none⟩,
    ⟨(some 31), .p .nilCheck, [.tmp 30], none⟩,
    ⟨(some 32), .p (.fieldAddr 12), [.tmp 31], none⟩,
    ⟨(some 33), .r (.load none), [.tmp 32], none⟩,
    ⟨(some 34), .p .move, [.tmp 2], none⟩,
    ⟨(some 35), .p (.indexAddr 1), [.tmp 33, .tmp 34], none⟩,
    ⟨(some 36), .r (.load none), [.tmp 35], none⟩,
    ⟨(some 37), .p .move, [.tmp 4], none⟩,
    ⟨(some 38), .p .move, [.tmp 3], none⟩,
    ⟨(some 39), .p .move, [.tmp 4], none⟩,
    ⟨(some 40), .p (.indexAddr 21), [.tmp 38, .tmp 39], none⟩,
    ⟨(some 41), .r (.load (some 21)), [.tmp 40], none⟩,
    ⟨(some 42), .p (.indexAddr 21), [.tmp 36, .tmp 37], none⟩], [], some ⟨none, .h (.store 21), [.tmp 42, .tmp 41], none⟩⟩,
   ⟨[], [], none⟩]))
  (.reg [⟨(some 28), .p .move, [.tmp 4], none⟩,
    ⟨(some 29), .p (.bin .add), [.tmp 28, .lit (.int .i64 1)], none⟩,
    ⟨(some 4), .p .move, [.tmp 29], none⟩]))))))))
  (.reg [⟨(some 12), .p .move, [.tmp 2], none⟩,
    ⟨(some 13), .p (.bin .add), [.tmp 12, .lit (.int .i64 1)], none⟩,
    ⟨(some 2), .p .move, [.tmp 13], none⟩])))))), []⟩
theorem c41 : cFunc Go.Proofs.Try.prog false 1 Go.Proofs.Try.f41 = some sf41 := by kernel_rfl

/-- (*rosary/rosarybook.Book).putTexts -/
def sf42 : SFunc := ⟨1, 43, (.seq (.reg [⟨(some 2), .p .move, [.lit (.int .i64 0)], none⟩])
  (.block 0 (.loop [0, 2] (.seq (.seq (.reg [⟨(some 5), .p .move, [.tmp 2], none⟩,
    ⟨(some 6), .p .move, [.tmp 0], none⟩,
    ⟨(some 7), .p .nilCheck, [.tmp 6], none⟩,
    ⟨(some 8), .p (.fieldAddr 0), [.tmp 7], none⟩,
    ⟨(some 9), .r (.load none), [.tmp 8], none⟩,
    ⟨(some 10), .p .lenSl, [.tmp 9], none⟩,
    ⟨(some 11), .p (.bin .lss), [.tmp 5, .tmp 10], none⟩])
  (.cond (.tmp 11) .skip
  (.exit 0)))
  (.seq (.block 1 (.seq (.reg [⟨(some 14), .p .move, [.tmp 2], none⟩,
    ⟨(some 15), .p .move, [.tmp 0], none⟩,
    ⟨(some 16), .p .nilCheck, [.tmp 15], none⟩,
    ⟨(some 17), .p (.fieldAddr 0), [.tmp 16], none⟩,
    ⟨(some 18), .r (.load none), [.tmp 17], none⟩,
    ⟨(some 19), .p .move, [.tmp 2], none⟩,
    ⟨(some 20), .p (.indexAddr 1), [.tmp 18, .tmp 19], none⟩,
    ⟨(some 21), .r (.load none), [.tmp 20], none⟩,
    ⟨(some 22), .p .lenSl, [.tmp 21], none⟩,
    ⟨(some 23), .h (.call 73), [.tmp 14, .lit (.int .i64 0), .tmp 22], none⟩,
    ⟨(some 3), .p .move, [.tmp 23], none⟩])
  (.seq (.reg [⟨(some 4), .p .move, [.lit (.int .i64 0)], none⟩])
  (.block 2 (.loop [0, 2, 3, 4] (.seq (.seq (.reg [⟨(some 24), .p .move, [.tmp 4], none⟩,
    ⟨(some 25), .p .move, [.tmp 3], none⟩,
    ⟨(some 26), .p .lenSl, [.tmp 25], none⟩,
    ⟨(some 27), .p (.bin .lss), [.tmp 24, .tmp 26], none⟩])
  (.cond (.tmp 27) .skip
  (.exit 2)))
  (.seq (.block 3 (.dreg [⟨[⟨(some 30), .p .move, [.tmp 0], none⟩,
    ⟨(some 31), .p .nilCheck, [.tmp 30], none⟩,
    ⟨(some 32), .p (.fieldAddr 0), [.tmp 31], none⟩,
    ⟨(some 33), .r (.load none), [.tmp 32], none⟩,
    ⟨(some 34), .p .move, [.tmp 2], none⟩,
    ⟨(some 35), .p (.indexAddr 1), [.tmp 33, .tmp 34], none⟩,
    ⟨(some 36), .r (.load none), [.tmp 35], none⟩,
    ⟨(some 37), .p .move, [.tmp 4], none⟩,
    ⟨(some 38), .p .move, [.tmp 3], none⟩,
    ⟨(some 39), .p .move, [.tmp 4], none⟩,
    ⟨(some 40), .p (.indexAddr 1), [.tmp 38, .tmp 39], none⟩,
    ⟨(some 41), .r (.load none), [.tmp 40], none⟩,
    ⟨(some 42), .p (.indexAddr 1), [.tmp 36, .tmp 37], none⟩], [], some ⟨none, .h (.store 1), [.tmp 42, .tmp 41], none⟩⟩,
   ⟨[], [], none⟩]))
  (.reg [⟨(some 28), .p .move, [.tmp 4], none⟩,
    ⟨(some 29), .p (.bin .add), [.tmp 28, .lit (.int .i64 1)], none⟩,
    ⟨(some 4), .p .move, [.tmp 29], none⟩]))))))))
  (.reg [⟨(some 12), .p .move, [.tmp 2], none⟩,
    ⟨(some 13), .p (.bin .add), [.tmp 12, .lit (.int .i64 1)], none⟩,
    ⟨(some 2), .p .move, [.tmp 13], none⟩])))))), []⟩
theorem c42 : cFunc Go.Proofs.Try.prog false 1 Go.Proofs.Try.f42 = some sf42 := by kernel_rfl

/-- (*rosary/rosarybook.Book).putInts -/
def sf43 : SFunc := ⟨1, 43, (.seq (.reg [⟨(some 2), .p .move, [.lit (.int .i64 0)], none⟩])
  (.block 0 (.loop [0, 2] (.seq (.seq (.reg [⟨(some 5), .p .move, [.tmp 2], none⟩,
    ⟨(some 6), .p .move, [.tmp 0], none⟩,
    ⟨(some 7), .p .nilCheck, [.tmp 6], none⟩,
    ⟨(some 8), .p (.fieldAddr 2), [.tmp 7], none⟩,
    ⟨(some 9), .r (.load none), [.tmp 8], none⟩,
    ⟨(some 10), .p .lenSl, [.tmp 9], none⟩,
    ⟨(some 11), .p (.bin .lss), [.tmp 5, .tmp 10], none⟩])
  (.cond (.tmp 11) .skip
  (.exit 0)))
  (.seq (.block 1 (.seq (.reg [⟨(some 14), .p .move, [.tmp 2], none⟩,
    ⟨(some 15), .p .move, [.tmp 0], none⟩,
    ⟨(some 16), .p .nilCheck, [.tmp 15], none⟩,
    ⟨(some 17), .p (.fieldAddr 2), [.tmp 16], none⟩,
    ⟨(some 18), .r (.load none), [.tmp 17], none⟩,
    ⟨(some 19), .p .move, [.tmp 2], none⟩,
    ⟨(some 20), .p (.indexAddr 1), [.tmp 18, .tmp 19], none⟩,
    ⟨(some 21), .r (.load none), [.tmp 20], none⟩,
    ⟨(some 22), .p .lenSl, [.tmp 21], none⟩,
    ⟨(some 23), .h (.call 74), [.tmp 14, .lit (.int .i64 0), .tmp 22], none⟩,
    ⟨(some 3), .p .move, [.tmp 23], none⟩])
  (.seq (.reg [⟨(some 4), .p .move, [.lit (.int .i64 0)], none⟩])
  (.block 2 (.loop [0, 2, 3, 4] (.seq (.seq (.reg [⟨(some 24), .p .move, [.tmp 4], none⟩,
    ⟨(some 25), .p .move, [.tmp 3], none⟩,
    ⟨(some 26), .p .lenSl, [.tmp 25], none⟩,
    ⟨(some 27), .p (.bin .lss), [.tmp 24, .tmp 26], none⟩])
  (.cond (.tmp 27) .skip
  (.exit 2)))
  (.seq (.block 3 (.dreg [⟨[⟨(some 30), .p .move, [.tmp 0], none⟩,
    ⟨(some 31), .p .nilCheck, [.tmp 30], none⟩,
    ⟨(some 32), .p (.fieldAddr 2), [.tmp 31], none⟩,
    ⟨(some 33), .r (.load none), [.tmp 32], none⟩,
    ⟨(some 34), .p .move, [.tmp 2], none⟩,
    ⟨(some 35), .p (.indexAddr 1), [.tmp 33, .tmp 34], none⟩,
    ⟨(some 36), .r (.load none), [.tmp 35], none⟩,
    ⟨(some 37), .p .move, [.tmp 4], none⟩,
    ⟨(some 38), .p .move, [.tmp 3], none⟩,
    ⟨(some 39), .p .move, [.tmp 4], none⟩,
    ⟨(some 40), .p (.indexAddr 1), [.tmp 38, .tmp 39], none⟩,
    ⟨(some 41), .r (.load none), [.tmp 40], none⟩,
    ⟨(some 42), .p (.indexAddr 1), [.tmp 36, .tmp 37], none⟩], [], some ⟨none, .h (.store 1), [.tmp 42, .tmp 41], none⟩⟩,
   ⟨[], [], none⟩]))
  (.reg [⟨(some 28), .p .move, [.tmp 4], none⟩,
    ⟨(some 29), .p (.bin .add), [.tmp 28, .lit (.int .i64 1)], none⟩,
    ⟨(some 4), .p .move, [.tmp 29], none⟩]))))))))
  (.reg [⟨(some 12), .p .move, [.tmp 2], none⟩,
    ⟨(some 13), .p (.bin .add), [.tmp 12, .lit (.int .i64 1)], none⟩,
    ⟨(some 2), .p .move, [.tmp 13], none⟩])))))), []⟩
theorem c43 : cFunc Go.Proofs.Try.prog false 1 Go.Proofs.Try.f43 = some sf43 := by kernel_rfl

/-- (*rosary/rosarybook.Book).putPoints -/
def sf44 : SFunc := ⟨1, 43, (.seq (.reg [⟨(some 2), .p .move, [.lit (.int .i64 0)], none⟩])
  (.block 0 (.loop [0, 2] (.seq (.seq (.reg [⟨(some 5), .p .move, [.tmp 2], none⟩,
    ⟨(some 6), .p .move, [.tmp 0], none⟩,
    ⟨(some 7), .p .nilCheck, [.tmp 6], none⟩,
    ⟨(some 8), .p (.fieldAddr 4), [.tmp 7], none⟩,
    ⟨(some 9), .r (.load none), [.tmp 8], none⟩,
    ⟨(some 10), .p .lenSl, [.tmp 9], none⟩,
    ⟨(some 11), .p (.bin .lss), [.tmp 5, .tmp 10], none⟩])
  (.cond (.tmp 11) .skip
  (.exit 0)))
  (.seq (.block 1 (.seq (.reg [⟨(some 14), .p .move, [.tmp 2], none⟩,
    ⟨(some 15), .p .move, [.tmp 0], none⟩,
    ⟨(some 16), .p .nilCheck, [.tmp 15], none⟩,
    ⟨(some 17), .p (.fieldAddr 4), [.tmp 16], none⟩,
    ⟨(some 18), .r (.load none), [.tmp 17], none⟩,
    ⟨(some 19), .p .move, [.tmp 2], none⟩,
    ⟨(some 20), .p (.indexAddr 1), [.tmp 18, .tmp 19], none⟩,
    ⟨(some 21), .r (.load none), [.tmp 20], none⟩,
    ⟨(some 22), .p .lenSl, [.tmp 21], none⟩,
    ⟨(some 23), .h (.call 75), [.tmp 14, .lit (.int .i64 0), .tmp 22], none⟩,
    ⟨(some 3), .p .move, [.tmp 23], none⟩])
  (.seq (.reg [⟨(some 4), .p .move, [.lit (.int .i64 0)], none⟩])
  (.block 2 (.loop [0, 2, 3, 4] (.seq (.seq (.reg [⟨(some 24), .p .move, [.tmp 4], none⟩,
    ⟨(some 25), .p .move, [.tmp 3], none⟩,
    ⟨(some 26), .p .lenSl, [.tmp 25], none⟩,
    ⟨(some 27), .p (.bin .lss), [.tmp 24, .tmp 26], none⟩])
  (.cond (.tmp 27) .skip
  (.exit 2)))
  (.seq (.block 3 (.dreg [⟨[⟨(some 30), .p .move, [.tmp 0], none⟩,
    ⟨(some 31), .p .nilCheck, [.tmp 30], none⟩,
    ⟨(some 32), .p (.fieldAddr 4), [.tmp 31], none⟩,
    ⟨(some 33), .r (.load none), [.tmp 32], none⟩,
    ⟨(some 34), .p .move, [.tmp 2], none⟩,
    ⟨(some 35), .p (.indexAddr 1), [.tmp 33, .tmp 34], none⟩,
    ⟨(some 36), .r (.load none), [.tmp 35], none⟩,
    ⟨(some 37), .p .move, [.tmp 4], none⟩,
    ⟨(some 38), .p .move, [.tmp 3], none⟩,
    ⟨(some 39), .p .move, [.tmp 4], none⟩,
    ⟨(some 40), .p (.indexAddr 1), [.tmp 38, .tmp 39], none⟩,
    ⟨(some 41), .r (.load none), [.tmp 40], none⟩,
    ⟨(some 42), .p (.indexAddr 1), [.tmp 36, .tmp 37], none⟩], [], some ⟨none, .h (.store 1), [.tmp 42, .tmp 41], none⟩⟩,
   ⟨[], [], none⟩]))
  (.reg [⟨(some 28), .p .move, [.tmp 4], none⟩,
    ⟨(some 29), .p (.bin .add), [.tmp 28, .lit (.int .i64 1)], none⟩,
    ⟨(some 4), .p .move, [.tmp 29], none⟩]))))))))
  (.reg [⟨(some 12), .p .move, [.tmp 2], none⟩,
    ⟨(some 13), .p (.bin .add), [.tmp 12, .lit (.int .i64 1)], none⟩,
    ⟨(some 2), .p .move, [.tmp 13], none⟩])))))), []⟩
theorem c44 : cFunc Go.Proofs.Try.prog false 1 Go.Proofs.Try.f44 = some sf44 := by kernel_rfl

/-- (*rosary/rosarybook.Book).putItems -/
def sf45 : SFunc := ⟨1, 43, (.seq (.reg [⟨(some 2), .p .move, [.lit (.int .i64 0)], none⟩])
  (.block 0 (.loop [0, 2] (.seq (.seq (.reg [⟨(some 5), .p .move, [.tmp 2], none⟩,
    ⟨(some 6), .p .move, [.tmp 0], none⟩,
    ⟨(some 7), .p .nilCheck, [.tmp 6], none⟩,
    ⟨(some 8), .p (.fieldAddr 6), [.tmp 7], none⟩,
    ⟨(some 9), .r (.load none), [.tmp 8], none⟩,
    ⟨(some 10), .p .lenSl, [.tmp 9], none⟩,
    ⟨(some 11), .p (.bin .lss), [.tmp 5, .tmp 10], none⟩])
  (.cond (.tmp 11) .skip
  (.exit 0)))
  (.seq (.block 1 (.seq (.reg [⟨(some 14), .p .move, [.tmp 2], none⟩,
    ⟨(some 15), .p .move, [.tmp 0], none⟩,
    ⟨(some 16), .p .nilCheck, [.tmp 15], none⟩,
    ⟨(some 17), .p (.fieldAddr 6), [.tmp 16], none⟩,
    ⟨(some 18), .r (.load none), [.tmp 17], none⟩,
    ⟨(some 19), .p .move, [.tmp 2], none⟩,
    ⟨(some 20), .p (.indexAddr 1), [.tmp 18, .tmp 19], none⟩,
    ⟨(some 21), .r (.load none), [.tmp 20], none⟩,
    ⟨(some 22), .p .lenSl, [.tmp 21], none⟩,
    ⟨(some 23), .h (.call 76), [.tmp 14, .lit (.int .i64 0), .tmp 22], none⟩,
    ⟨(some 3), .p .move, [.tmp 23], none⟩])
  (.seq (.reg [⟨(some 4), .p .move, [.lit (.int .i64 0)], none⟩])
  (.block 2 (.loop [0, 2, 3, 4] (.seq (.seq (.reg [⟨(some 24), .p .move, [.tmp 4], none⟩,
    ⟨(some 25), .p .move, [.tmp 3], none⟩,
    ⟨(some 26), .p .lenSl, [.tmp 25], none⟩,
    ⟨(some 27), .p (.bin .lss), [.tmp 24, .tmp 26], none⟩])
  (.cond (.tmp 27) .skip
  (.exit 2)))
  (.seq (.block 3 (.dreg [⟨[⟨(some 30), .p .move, [.tmp 0], none⟩,
    ⟨(some 31), .p .nilCheck, [.tmp 30], none⟩,
    ⟨(some 32), .p (.fieldAddr 6), [.tmp 31], none⟩,
    ⟨(some 33), .r (.load none), [.tmp 32], none⟩,
    ⟨(some 34), .p .move, [.tmp 2], none⟩,
    ⟨(some 35), .p (.indexAddr 1), [.tmp 33, .tmp 34], none⟩,
    ⟨(some 36), .r (.load none), [.tmp 35], none⟩,
    ⟨(some 37), .p .move, [.tmp 4], none⟩,
    ⟨(some 38), .p .move, [.tmp 3], none⟩,
    ⟨(some 39), .p .move, [.tmp 4], none⟩,
    ⟨(some 40), .p (.indexAddr 2), [.tmp 38, .tmp 39], none⟩,
    ⟨(some 41), .r (.load (some 2)), [.tmp 40], none⟩,
    ⟨(some 42), .p (.indexAddr 2), [.tmp 36, .tmp 37], none⟩], [], some ⟨none, .h (.store 2), [.tmp 42, .tmp 41], none⟩⟩,
   ⟨[], [], none⟩]))
  (.reg [⟨(some 28), .p .move, [.tmp 4], none⟩,
    ⟨(some 29), .p (.bin .add), [.tmp 28, .lit (.int .i64 1)], none⟩,
    ⟨(some 4), .p .move, [.tmp 29], none⟩]))))))))
  (.reg [⟨(some 12), .p .move, [.tmp 2], none⟩,
    ⟨(some 13), .p (.bin .add), [.tmp 12, .lit (.int .i64 1)], none⟩,
    ⟨(some 2), .p .move, [.tmp 13], none⟩])))))), []⟩
theorem c45 : cFunc Go.Proofs.Try.prog false 1 Go.Proofs.Try.f45 = some sf45 := by kernel_rfl

/-- (*rosary/rosarybook.Book).putOwneds -/
def sf46 : SFunc := ⟨1, 43, (.seq (.reg [⟨(some 2), .p .move, [.lit (.int .i64 0)], none⟩])
  (.block 0 (.loop [0, 2] (.seq (.seq (.reg [⟨(some 5), .p .move, [.tmp 2], none⟩,
    ⟨(some 6), .p .move, [.tmp 0], none⟩,
    ⟨(some 7), .p .nilCheck, [.tmp 6], none⟩,
    ⟨(some 8), .p (.fieldAddr 8), [.tmp 7], none⟩,
    ⟨(some 9), .r (.load none), [.tmp 8], none⟩,
    ⟨(some 10), .p .lenSl, [.tmp 9], none⟩,
    ⟨(some 11), .p (.bin .lss), [.tmp 5, .tmp 10], none⟩])
  (.cond (.tmp 11) .skip
  (.exit 0)))
  (.seq (.block 1 (.seq (.reg [⟨(some 14), .p .move, [.tmp 2], none⟩,
    ⟨(some 15), .p .move, [.tmp 0], none⟩,
    ⟨(some 16), .p .nilCheck, [.tmp 15], none⟩,
    ⟨(some 17), .p (.fieldAddr 8), [.tmp 16], none⟩,
    ⟨(some 18), .r (.load none), [.tmp 17], none⟩,
    ⟨(some 19), .p .move, [.tmp 2], none⟩,
    ⟨(some 20), .p (.indexAddr 1), [.tmp 18, .tmp 19], none⟩,
    ⟨(some 21), .r (.load none), [.tmp 20], none⟩,
    ⟨(some 22), .p .lenSl, [.tmp 21], none⟩,
    ⟨(some 23), .h (.call 77), [.tmp 14, .lit (.int .i64 0), .tmp 22], none⟩,
    ⟨(some 3), .p .move, [.tmp 23], none⟩])
  (.seq (.reg [⟨(some 4), .p .move, [.lit (.int .i64 0)], none⟩])
  (.block 2 (.loop [0, 2, 3, 4] (.seq (.seq (.reg [⟨(some 24), .p .move, [.tmp 4], none⟩,
    ⟨(some 25), .p .move, [.tmp 3], none⟩,
    ⟨(some 26), .p .lenSl, [.tmp 25], none⟩,
    ⟨(some 27), .p (.bin .lss), [.tmp 24, .tmp 26], none⟩])
  (.cond (.tmp 27) .skip
  (.exit 2)))
  (.seq (.block 3 (.dreg [⟨[⟨(some 30), .p .move, [.tmp 0], none⟩,
    ⟨(some 31), .p .nilCheck, [.tmp 30], none⟩,
    ⟨(some 32), .p (.fieldAddr 8), [.tmp 31], none⟩,
    ⟨(some 33), .r (.load none), [.tmp 32], none⟩,
    ⟨(some 34), .p .move, [.tmp 2], none⟩,
    ⟨(some 35), .p (.indexAddr 1), [.tmp 33, .tmp 34], none⟩,
    ⟨(some 36), .r (.load none), [.tmp 35], none⟩,
    ⟨(some 37), .p .move, [.tmp 4], none⟩,
    ⟨(some 38), .p .move, [.tmp 3], none⟩,
    ⟨(some 39), .p .move, [.tmp 4], none⟩,
    ⟨(some 40), .p (.indexAddr 4), [.tmp 38, .tmp 39], none⟩,
    ⟨(some 41), .r (.load (some 4)), [.tmp 40], none⟩,
    ⟨(some 42), .p (.indexAddr 4), [.tmp 36, .tmp 37], none⟩], [], some ⟨none, .h (.store 4), [.tmp 42, .tmp 41], none⟩⟩,
   ⟨[], [], none⟩]))
  (.reg [⟨(some 28), .p .move, [.tmp 4], none⟩,
    ⟨(some 29), .p (.bin .add), [.tmp 28, .lit (.int .i64 1)], none⟩,
    ⟨(some 4), .p .move, [.tmp 29], none⟩]))))))))
  (.reg [⟨(some 12), .p .move, [.tmp 2], none⟩,
    ⟨(some 13), .p (.bin .add), [.tmp 12, .lit (.int .i64 1)], none⟩,
    ⟨(some 2), .p .move, [.tmp 13], none⟩])))))), []⟩
theorem c46 : cFunc Go.Proofs.Try.prog false 1 Go.Proofs.Try.f46 = some sf46 := by kernel_rfl

/-- (*rosary/rosarybook.Book).growTexts -/
def sf47 : SFunc := ⟨1, 43, (.seq (.reg [⟨(some 2), .p .move, [.lit .nilslice], none⟩])
  (.seq (.reg [⟨(some 3), .p .move, [.lit .nilslice], none⟩])
  (.seq (.seq (.reg [⟨(some 4), .p .move, [.lit (.int .i64 0)], none⟩])
  (.block 0 (.loop [0, 3, 4] (.seq (.seq (.reg [⟨(some 7), .p .move, [.tmp 4], none⟩,
    ⟨(some 8), .p .move, [.tmp 0], none⟩,
    ⟨(some 9), .p .nilCheck, [.tmp 8], none⟩,
    ⟨(some 10), .p (.fieldAddr 0), [.tmp 9], none⟩,
    ⟨(some 11), .r (.load none), [.tmp 10], none⟩,
    ⟨(some 12), .p .lenSl, [.tmp 11], none⟩,
    ⟨(some 13), .p (.bin .lss), [.tmp 7, .tmp 12], none⟩])
  (.cond (.tmp 13) .skip
  (.exit 0)))
  (.seq (.block 1 (.seq (.reg [⟨(some 16), .p .move, [.tmp 0], none⟩,
    ⟨(some 17), .p .nilCheck, [.tmp 16], none⟩,
    ⟨(some 18), .p (.fieldAddr 0), [.tmp 17], none⟩,
    ⟨(some 19), .r (.load none), [.tmp 18], none⟩,
    ⟨(some 20), .p .move, [.tmp 4], none⟩,
    ⟨(some 21), .p (.indexAddr 1), [.tmp 19, .tmp 20], none⟩,
    ⟨(some 22), .r (.load none), [.tmp 21], none⟩,
    ⟨(some 5), .p .move, [.tmp 22], none⟩])
  (.seq (.seq (.reg [⟨(some 6), .p .move, [.lit (.int .i64 0)], none⟩])
  (.block 2 (.loop [0, 3, 4, 5, 6] (.seq (.seq (.reg [⟨(some 23), .p .move, [.tmp 6], none⟩,
    ⟨(some 24), .p (.bin .lss), [.tmp 23, .lit (.int .i64 12)], none⟩])
  (.cond (.tmp 24) .skip
  (.exit 2)))
  (.seq (.block 3 (.reg [⟨(some 27), .p .move, [.tmp 5], none⟩,
    ⟨(some 28), .p .move, [.tmp 4], none⟩,
    ⟨(some 29), .p .move, [.tmp 5], none⟩,
    ⟨(some 30), .p .lenSl, [.tmp 29], none⟩,
    ⟨(some 31), .h (.call 73), [.tmp 28, .tmp 30, .lit (.int .i64 1)], none⟩,
    ⟨(some 32), .h (.append 1 false), [.tmp 27, .tmp 31], none⟩,
    ⟨(some 5), .p .move, [.tmp 32], none⟩]))
  (.reg [⟨(some 25), .p .move, [.tmp 6], none⟩,
    ⟨(some 26), .p (.bin .add), [.tmp 25, .lit (.int .i64 1)], none⟩,
    ⟨(some 6), .p .move, [.tmp 26], none⟩]))))))
  (.reg [⟨(some 33), .p .move, [.tmp 3], none⟩,
    ⟨(some 34), .p .move, [.tmp 5], none⟩,
    ⟨(some 35), .p .move, [.tmp 4], none⟩,
    ⟨(some 36), .p .move, [.tmp 5], none⟩,
    ⟨(some 37), .p .lenSl, [.tmp 36], none⟩,
    ⟨(some 38), .h (.call 73), [.tmp 35, .tmp 37, .lit (.int .i64 60)], none⟩,
    ⟨(some 39), .h (.append 1 false), [.tmp 34, .tmp 38], none⟩,
    ⟨(some 40), .a (.buildSlice 1 1 [.nilslice] [0]), [.tmp 39], none⟩,
    ⟨(some 41), .h (.append 1 false), [.tmp 33, .tmp 40], none⟩,
    ⟨(some 3), .p .move, [.tmp 41], none⟩]))))
  (.reg [⟨(some 14), .p .move, [.tmp 4], none⟩,
    ⟨(some 15), .p (.bin .add), [.tmp 14, .lit (.int .i64 1)], none⟩,
    ⟨(some 4), .p .move, [.tmp 15], none⟩]))))))
  (.seq (.reg [⟨(some 42), .p .move, [.tmp 3], none⟩,
    ⟨(some 2), .p .move, [.tmp 42], none⟩])
  .ret)))), [.tmp 2]⟩
theorem c47 : cFunc Go.Proofs.Try.prog false 1 Go.Proofs.Try.f47 = some sf47 := by kernel_rfl

/-- (*rosary/rosarybook.Book).growInts -/
def sf48 : SFunc := ⟨1, 43, (.seq (.reg [⟨(some 2), .p .move, [.lit .nilslice], none⟩])
  (.seq (.reg [⟨(some 3), .p .move, [.lit .nilslice], none⟩])
  (.seq (.seq (.reg [⟨(some 4), .p .move, [.lit (.int .i64 0)], none⟩])
  (.block 0 (.loop [0, 3, 4] (.seq (.seq (.reg [⟨(some 7), .p .move, [.tmp 4], none⟩,
    ⟨(some 8), .p .move, [.tmp 0], none⟩,
    ⟨(some 9), .p .nilCheck, [.tmp 8], none⟩,
    ⟨(some 10), .p (.fieldAddr 2), [.tmp 9], none⟩,
    ⟨(some 11), .r (.load none), [.tmp 10], none⟩,
    ⟨(some 12), .p .lenSl, [.tmp 11], none⟩,
    ⟨(some 13), .p (.bin .lss), [.tmp 7, .tmp 12], none⟩])
  (.cond (.tmp 13) .skip
  (.exit 0)))
  (.seq (.block 1 (.seq (.reg [⟨(some 16), .p .move, [.tmp 0], none⟩,
    ⟨(some 17), .p .nilCheck, [.tmp 16], none⟩,
    ⟨(some 18), .p (.fieldAddr 2), [.tmp 17], none⟩,
    ⟨(some 19), .r (.load none), [.tmp 18], none⟩,
    ⟨(some 20), .p .move, [.tmp 4], none⟩,
    ⟨(some 21), .p (.indexAddr 1), [.tmp 19, .tmp 20], none⟩,
    ⟨(some 22), .r (.load none), [.tmp 21], none⟩,
    ⟨(some 5), .p .move, [.tmp 22], none⟩])
  (.seq (.seq (.reg [⟨(some 6), .p .move, [.lit (.int .i64 0)], none⟩])
  (.block 2 (.loop [0, 3, 4, 5, 6] (.seq (.seq (.reg [⟨(some 23), .p .move, [.tmp 6], none⟩,
    ⟨(some 24), .p (.bin .lss), [.tmp 23, .lit (.int .i64 12)], none⟩])
  (.cond (.tmp 24) .skip
  (.exit 2)))
  (.seq (.block 3 (.reg [⟨(some 27), .p .move, [.tmp 5], none⟩,
    ⟨(some 28), .p .move, [.tmp 4], none⟩,
    ⟨(some 29), .p .move, [.tmp 5], none⟩,
    ⟨(some 30), .p .lenSl, [.tmp 29], none⟩,
    ⟨(some 31), .h (.call 74), [.tmp 28, .tmp 30, .lit (.int .i64 1)], none⟩,
    ⟨(some 32), .h (.append 1 false), [.tmp 27, .tmp 31], none⟩,
    ⟨(some 5), .p .move, [.tmp 32], none⟩]))
  (.reg [⟨(some 25), .p .move, [.tmp 6], none⟩,
    ⟨(some 26), .p (.bin .add), [.tmp 25, .lit (.int .i64 1)], none⟩,
    ⟨(some 6), .p .move, [.tmp 26], none⟩]))))))
  (.reg [⟨(some 33), .p .move, [.tmp 3], none⟩,
    ⟨(some 34), .p .move, [.tmp 5], none⟩,
    ⟨(some 35), .p .move, [.tmp 4], none⟩,
    ⟨(some 36), .p .move, [.tmp 5], none⟩,
    ⟨(some 37), .p .lenSl, [.tmp 36], none⟩,
    ⟨(some 38), .h (.call 74), [.tmp 35, .tmp 37, .lit (.int .i64 60)], none⟩,
    ⟨(some 39), .h (.append 1 false), [.tmp 34, .tmp 38], none⟩,
    ⟨(some 40), .a (.buildSlice 1 1 [.nilslice] [0]), [.tmp 39], none⟩,
    ⟨(some 41), .h (.append 1 false), [.tmp 33, .tmp 40], none⟩,
    ⟨(some 3), .p .move, [.tmp 41], none⟩]))))
  (.reg [⟨(some 14), .p .move, [.tmp 4], none⟩,
    ⟨(some 15), .p (.bin .add), [.tmp 14, .lit (.int .i64 1)], none⟩,
    ⟨(some 4), .p .move, [.tmp 15], none⟩]))))))
  (.seq (.reg [⟨(some 42), .p .move, [.tmp 3], none⟩,
    ⟨(some 2), .p .move, [.tmp 42], none⟩])
  .ret)))), [.tmp 2]⟩
theorem c48 : cFunc Go.Proofs.Try.prog false 1 Go.Proofs.Try.f48 = some sf48 := by kernel_rfl

/-- (*rosary/rosarybook.Book).growPoints -/
def sf49 : SFunc := ⟨1, 43, (.seq (.reg [⟨(some 2), .p .move, [.lit .nilslice], none⟩])
  (.seq (.reg [⟨(some 3), .p .move, [.lit .nilslice], none⟩])
  (.seq (.seq (.reg [⟨(some 4), .p .move, [.lit (.int .i64 0)], none⟩])
  (.block 0 (.loop [0, 3, 4] (.seq (.seq (.reg [⟨(some 7), .p .move, [.tmp 4], none⟩,
    ⟨(some 8), .p .move, [.tmp 0], none⟩,
    ⟨(some 9), .p .nilCheck, [.tmp 8], none⟩,
    ⟨(some 10), .p (.fieldAddr 4), [.tmp 9], none⟩,
    ⟨(some 11), .r (.load none), [.tmp 10], none⟩,
    ⟨(some 12), .p .lenSl, [.tmp 11], none⟩,
    ⟨(some 13), .p (.bin .lss), [.tmp 7, .tmp 12], none⟩])
  (.cond (.tmp 13) .skip
  (.exit 0)))
  (.seq (.block 1 (.seq (.reg [⟨(some 16), .p .move, [.tmp 0], none⟩,
    ⟨(some 17), .p .nilCheck, [.tmp 16], none⟩,
    ⟨(some 18), .p (.fieldAddr 4), [.tmp 17], none⟩,
    ⟨(some 19), .r (.load none), [.tmp 18], none⟩,
    ⟨(some 20), .p .move, [.tmp 4], none⟩,
    ⟨(some 21), .p (.indexAddr 1), [.tmp 19, .tmp 20], none⟩,
    ⟨(some 22), .r (.load none), [.tmp 21], none⟩,
    ⟨(some 5), .p .move, [.tmp 22], none⟩])
  (.seq (.seq (.reg [⟨(some 6), .p .move, [.lit (.int .i64 0)], none⟩])
  (.block 2 (.loop [0, 3, 4, 5, 6] (.seq (.seq (.reg [⟨(some 23), .p .move, [.tmp 6], none⟩,
    ⟨(some 24), .p (.bin .lss), [.tmp 23, .lit (.int .i64 12)], none⟩])
  (.cond (.tmp 24) .skip
  (.exit 2)))
  (.seq (.block 3 (.reg [⟨(some 27), .p .move, [.tmp 5], none⟩,
    ⟨(some 28), .p .move, [.tmp 4], none⟩,
    ⟨(some 29), .p .move, [.tmp 5], none⟩,
    ⟨(some 30), .p .lenSl, [.tmp 29], none⟩,
    ⟨(some 31), .h (.call 75), [.tmp 28, .tmp 30, .lit (.int .i64 1)], none⟩,
    ⟨(some 32), .h (.append 1 false), [.tmp 27, .tmp 31], none⟩,
    ⟨(some 5), .p .move, [.tmp 32], none⟩]))
  (.reg [⟨(some 25), .p .move, [.tmp 6], none⟩,
    ⟨(some 26), .p (.bin .add), [.tmp 25, .lit (.int .i64 1)], none⟩,
    ⟨(some 6), .p .move, [.tmp 26], none⟩]))))))
  (.reg [⟨(some 33), .p .move, [.tmp 3], none⟩,
    ⟨(some 34), .p .move, [.tmp 5], none⟩,
    ⟨(some 35), .p .move, [.tmp 4], none⟩,
    ⟨(some 36), .p .move, [.tmp 5], none⟩,
    ⟨(some 37), .p .lenSl, [.tmp 36], none⟩,
    ⟨(some 38), .h (.call 75), [.tmp 35, .tmp 37, .lit (.int .i64 60)], none⟩,
    ⟨(some 39), .h (.append 1 false), [.tmp 34, .tmp 38], none⟩,
    ⟨(some 40), .a (.buildSlice 1 1 [.nilslice] [0]), [.tmp 39], none⟩,
    ⟨(some 41), .h (.append 1 false), [.tmp 33, .tmp 40], none⟩,
    ⟨(some 3), .p .move, [.tmp 41], none⟩]))))
  (.reg [⟨(some 14), .p .move, [.tmp 4], none⟩,
    ⟨(some 15), .p (.bin .add), [.tmp 14, .lit (.int .i64 1)], none⟩,
    ⟨(some 4), .p .move, [.tmp 15], none⟩]))))))
  (.seq (.reg [⟨(some 42), .p .move, [.tmp 3], none⟩,
    ⟨(some 2), .p .move, [.tmp 42], none⟩])
  .ret)))), [.tmp 2]⟩
theorem c49 : cFunc Go.Proofs.Try.prog false 1 Go.Proofs.Try.f49 = some sf49 := by kernel_rfl

/-- (*rosary/rosarybook.Book).growItems -/
def sf50 : SFunc := ⟨1, 43, (.seq (.reg [⟨(some 2), .p .move, [.lit .nilslice], none⟩])
  (.seq (.reg [⟨(some 3), .p .move, [.lit .nilslice], none⟩])
  (.seq (.seq (.reg [⟨(some 4), .p .move, [.lit (.int .i64 0)], none⟩])
  (.block 0 (.loop [0, 3, 4] (.seq (.seq (.reg [⟨(some 7), .p .move, [.tmp 4], none⟩,
    ⟨(some 8), .p .move, [.tmp 0], none⟩,
    ⟨(some 9), .p .nilCheck, [.tmp 8], none⟩,
    ⟨(some 10), .p (.fieldAddr 6), [.tmp 9], none⟩,
    ⟨(some 11), .r (.load none), [.tmp 10], none⟩,
    ⟨(some 12), .p .lenSl, [.tmp 11], none⟩,
    ⟨(some 13), .p (.bin .lss), [.tmp 7, .tmp 12], none⟩])
  (.cond (.tmp 13) .skip
  (.exit 0)))
  (.seq (.block 1 (.seq (.reg [⟨(some 16), .p .move, [.tmp 0], none⟩,
    ⟨(some 17), .p .nilCheck, [.tmp 16], none⟩,
    ⟨(some 18), .p (.fieldAddr 6), [.tmp 17], none⟩,
    ⟨(some 19), .r (.load none), [.tmp 18], none⟩,
    ⟨(some 20), .p .move, [.tmp 4], none⟩,
    ⟨(some 21), .p (.indexAddr 1), [.tmp 19, .tmp 20], none⟩,
    ⟨(some 22), .r (.load none), [.tmp 21], none⟩,
    ⟨(some 5), .p .move, [.tmp 22], none⟩])
  (.seq (.seq (.reg [⟨(some 6), .p .move, [.lit (.int .i64 0)], none⟩])
  (.block 2 (.loop [0, 3, 4, 5, 6] (.seq (.seq (.reg [⟨(some 23), .p .move, [.tmp 6], none⟩,
    ⟨(some 24), .p (.bin .lss), [.tmp 23, .lit (.int .i64 12)], none⟩])
  (.cond (.tmp 24) .skip
  (.exit 2)))
  (.seq (.block 3 (.reg [⟨(some 27), .p .move, [.tmp 5], none⟩,
    ⟨(some 28), .p .move, [.tmp 4], none⟩,
    ⟨(some 29), .p .move, [.tmp 5], none⟩,
    ⟨(some 30), .p .lenSl, [.tmp 29], none⟩,
    ⟨(some 31), .h (.call 76), [.tmp 28, .tmp 30, .lit (.int .i64 1)], none⟩,
    ⟨(some 32), .h (.append 2 false), [.tmp 27, .tmp 31], none⟩,
    ⟨(some 5), .p .move, [.tmp 32], none⟩]))
  (.reg [⟨(some 25), .p .move, [.tmp 6], none⟩,
    ⟨(some 26), .p (.bin .add), [.tmp 25, .lit (.int .i64 1)], none⟩,
    ⟨(some 6), .p .move, [.tmp 26], none⟩]))))))
  (.reg [⟨(some 33), .p .move, [.tmp 3], none⟩,
    ⟨(some 34), .p .move, [.tmp 5], none⟩,
    ⟨(some 35), .p .move, [.tmp 4], none⟩,
    ⟨(some 36), .p .move, [.tmp 5], none⟩,
    ⟨(some 37), .p .lenSl, [.tmp 36], none⟩,
    ⟨(some 38), .h (.call 76), [.tmp 35, .tmp 37, .lit (.int .i64 60)], none⟩,
    ⟨(some 39), .h (.append 2 false), [.tmp 34, .tmp 38], none⟩,
    ⟨(some 40), .a (.buildSlice 1 1 [.nilslice] [0]), [.tmp 39], none⟩,
    ⟨(some 41), .h (.append 1 false), [.tmp 33, .tmp 40], none⟩,
    ⟨(some 3), .p .move, [.tmp 41], none⟩]))))
  (.reg [⟨(some 14), .p .move, [.tmp 4], none⟩,
    ⟨(some 15), .p (.bin .add), [.tmp 14, .lit (.int .i64 1)], none⟩,
    ⟨(some 4), .p .move, [.tmp 15], none⟩]))))))
  (.seq (.reg [⟨(some 42), .p .move, [.tmp 3], none⟩,
    ⟨(some 2), .p .move, [.tmp 42], none⟩])
  .ret)))), [.tmp 2]⟩
theorem c50 : cFunc Go.Proofs.Try.prog false 1 Go.Proofs.Try.f50 = some sf50 := by kernel_rfl

/-- (*rosary/rosarybook.Book).growOwneds -/
def sf51 : SFunc := ⟨1, 43, (.seq (.reg [⟨(some 2), .p .move, [.lit .nilslice], none⟩])
  (.seq (.reg [⟨(some 3), .p .move, [.lit .nilslice], none⟩])
  (.seq (.seq (.reg [⟨(some 4), .p .move, [.lit (.int .i64 0)], none⟩])
  (.block 0 (.loop [0, 3, 4] (.seq (.seq (.reg [⟨(some 7), .p .move, [.tmp 4], none⟩,
    ⟨(some 8), .p .move, [.tmp 0], none⟩,
    ⟨(some 9), .p .nilCheck, [.tmp 8], none⟩,
    ⟨(some 10), .p (.fieldAddr 8), [.tmp 9], none⟩,
    ⟨(some 11), .r (.load none), [.tmp 10], none⟩,
    ⟨(some 12), .p .lenSl, [.tmp 11], none⟩,
    ⟨(some 13), .p (.bin .lss), [.tmp 7, .tmp 12], none⟩])
  (.cond (.tmp 13) .skip
  (.exit 0)))
  (.seq (.block 1 (.seq (.reg [⟨(some 16), .p .move, [.tmp 0], none⟩,
    ⟨(some 17), .p .nilCheck, [.tmp 16], none⟩,
    ⟨(some 18), .p (.fieldAddr 8), [.tmp 17], none⟩,
    ⟨(some 19), .r (.load none), [.tmp 18], none⟩,
    ⟨(some 20), .p .move, [.tmp 4], none⟩,
    ⟨(some 21), .p (.indexAddr 1), [.tmp 19, .tmp 20], none⟩,
    ⟨(some 22), .r (.load none), [.tmp 21], none⟩,
    ⟨(some 5), .p .move, [.tmp 22], none⟩])
  (.seq (.seq (.reg [⟨(some 6), .p .move, [.lit (.int .i64 0)], none⟩])
  (.block 2 (.loop [0, 3, 4, 5, 6] (.seq (.seq (.reg [⟨(some 23), .p .move, [.tmp 6], none⟩,
    ⟨(some 24), .p (.bin .lss), [.tmp 23, .lit (.int .i64 12)], none⟩])
  (.cond (.tmp 24) .skip
  (.exit 2)))
  (.seq (.block 3 (.reg [⟨(some 27), .p .move, [.tmp 5], none⟩,
    ⟨(some 28), .p .move, [.tmp 4], none⟩,
    ⟨(some 29), .p .move, [.tmp 5], none⟩,
    ⟨(some 30), .p .lenSl, [.tmp 29], none⟩,
    ⟨(some 31), .h (.call 77), [.tmp 28, .tmp 30, .lit (.int .i64 1)], none⟩,
    ⟨(some 32), .h (.append 4 false), [.tmp 27, .tmp 31], none⟩,
    ⟨(some 5), .p .move, [.tmp 32], none⟩]))
  (.reg [⟨(some 25), .p .move, [.tmp 6], none⟩,
    ⟨(some 26), .p (.bin .add), [.tmp 25, .lit (.int .i64 1)], none⟩,
    ⟨(some 6), .p .move, [.tmp 26], none⟩]))))))
  (.reg [⟨(some 33), .p .move, [.tmp 3], none⟩,
    ⟨(some 34), .p .move, [.tmp 5], none⟩,
    ⟨(some 35), .p .move, [.tmp 4], none⟩,
    ⟨(some 36), .p .move, [.tmp 5], none⟩,
    ⟨(some 37), .p .lenSl, [.tmp 36], none⟩,
    ⟨(some 38), .h (.call 77), [.tmp 35, .tmp 37, .lit (.int .i64 60)], none⟩,
    ⟨(some 39), .h (.append 4 false), [.tmp 34, .tmp 38], none⟩,
    ⟨(some 40), .a (.buildSlice 1 1 [.nilslice] [0]), [.tmp 39], none⟩,
    ⟨(some 41), .h (.append 1 false), [.tmp 33, .tmp 40], none⟩,
    ⟨(some 3), .p .move, [.tmp 41], none⟩]))))
  (.reg [⟨(some 14), .p .move, [.tmp 4], none⟩,
    ⟨(some 15), .p (.bin .add), [.tmp 14, .lit (.int .i64 1)], none⟩,
    ⟨(some 4), .p .move, [.tmp 15], none⟩]))))))
  (.seq (.reg [⟨(some 42), .p .move, [.tmp 3], none⟩,
    ⟨(some 2), .p .move, [.tmp 42], none⟩])
  .ret)))), [.tmp 2]⟩
theorem c51 : cFunc Go.Proofs.Try.prog false 1 Go.Proofs.Try.f51 = some sf51 := by kernel_rfl

/-- (*rosary/rosarybook.Book).growEvents -/
def sf52 : SFunc := ⟨1, 43, (.seq (.reg [⟨(some 2), .p .move, [.lit .nilslice], none⟩])
  (.seq (.reg [⟨(some 3), .p .move, [.lit .nilslice], none⟩])
  (.seq (.seq (.reg [⟨(some 4), .p .move, [.lit (.int .i64 0)], none⟩])
  (.block 0 (.loop [0, 3, 4] (.seq (.seq (.reg [⟨(some 7), .p .move, [.tmp 4], none⟩,
    ⟨(some 8), .p .move, [.tmp 0], none⟩,
    ⟨(some 9), .p .nilCheck, [.tmp 8], none⟩,
    ⟨(some 10), .p (.fieldAddr 10), [.tmp 9], none⟩,
    ⟨(some 11), .r (.load none), [.tmp 10], none⟩,
    ⟨(some 12), .p .lenSl, [.tmp 11], none⟩,
    ⟨(some 13), .p (.bin .lss), [.tmp 7, .tmp 12], none⟩])
  (.cond (.tmp 13) .skip
  (.exit 0)))
  (.seq (.block 1 (.seq (.reg [⟨(some 16), .p .move, [.tmp 0], none⟩,
    ⟨(some 17), .p .nilCheck, [.tmp 16], none⟩,
    ⟨(some 18), .p (.fieldAddr 10), [.tmp 17], none⟩,
    ⟨(some 19), .r (.load none), [.tmp 18], none⟩,
    ⟨(some 20), .p .move, [.tmp 4], none⟩,
    ⟨(some 21), .p (.indexAddr 1), [.tmp 19, .tmp 20], none⟩,
    ⟨(some 22), .r (.load none), [.tmp 21], none⟩,
    ⟨(some 5), .p .move, [.tmp 22], none⟩])
  (.seq (.seq (.reg [⟨(some 6), .p .move, [.lit (.int .i64 0)], none⟩])
  (.block 2 (.loop [0, 3, 4, 5, 6] (.seq (.seq (.reg [⟨(some 23), .p .move, [.tmp 6], none⟩,
    ⟨(some 24), .p (.bin .lss), [.tmp 23, .lit (.int .i64 12)], none⟩])
  (.cond (.tmp 24) .skip
  (.exit 2)))
  (.seq (.block 3 (.reg [⟨(some 27), .p .move, [.tmp 5], none⟩,
    ⟨(some 28), .p .move, [.tmp 4], none⟩,
    ⟨(some 29), .p .move, [.tmp 5], none⟩,
    ⟨(some 30), .p .lenSl, [.tmp 29], none⟩,
    ⟨(some 31), .h (.call 71), [.tmp 28, .tmp 30, .lit (.int .i64 1)], none⟩,
    ⟨(some 32), .h (.append 15 false), [.tmp 27, .tmp 31], none⟩,
    ⟨(some 5), .p .move, [.tmp 32], none⟩]))
  (.reg [⟨(some 25), .p .move, [.tmp 6], none⟩,
    ⟨(some 26), .p (.bin .add), [.tmp 25, .lit (.int .i64 1)], none⟩,
    ⟨(some 6), .p .move, [.tmp 26], none⟩]))))))
  (.reg [⟨(some 33), .p .move, [.tmp 3], none⟩,
    ⟨(some 34), .p .move, [.tmp 5], none⟩,
    ⟨(some 35), .p .move, [.tmp 4], none⟩,
    ⟨(some 36), .p .move, [.tmp 5], none⟩,
    ⟨(some 37), .p .lenSl, [.tmp 36], none⟩,
    ⟨(some 38), .h (.call 71), [.tmp 35, .tmp 37, .lit (.int .i64 60)], none⟩,
    ⟨(some 39), .h (.append 15 false), [.tmp 34, .tmp 38], none⟩,
    ⟨(some 40), .a (.buildSlice 1 1 [.nilslice] [0]), [.tmp 39], none⟩,
    ⟨(some 41), .h (.append 1 false), [.tmp 33, .tmp 40], none⟩,
    ⟨(some 3), .p .move, [.tmp 41], none⟩]))))
  (.reg [⟨(some 14), .p .move, [.tmp 4], none⟩,
    ⟨(some 15), .p (.bin .add), [.tmp 14, .lit (.int .i64 1)], none⟩,
    ⟨(some 4), .p .move, [.tmp 15], none⟩]))))))
  (.seq (.reg [⟨(some 42), .p .move, [.tmp 3], none⟩,
    ⟨(some 2), .p .move, [.tmp 42], none⟩])
  .ret)))), [.tmp 2]⟩
theorem c52 : cFunc Go.Proofs.Try.prog false 1 Go.Proofs.Try.f52 = some sf52 := by kernel_rfl

/-- (*rosary/rosarybook.Book).growLetters -/
def sf53 : SFunc := ⟨1, 43, (.seq (.reg [⟨(some 2), .p .move, [.lit .nilslice], none⟩])
  (.seq (.reg [⟨(some 3), .p .move, [.lit .nilslice], none⟩])
  (.seq (.seq (.reg [⟨(some 4), .p .move, [.lit (.int .i64 0)], none⟩])
  (.block 0 (.loop [0, 3, 4] (.seq (.seq (.reg [⟨(some 7), .p .move, [.tmp 4], none⟩,
    ⟨(some 8), .p .move, [.tmp 0], none⟩,
    ⟨(some 9), .p .nilCheck, [.tmp 8], none⟩,
    ⟨(some 10), .p (.fieldAddr 12), [.tmp 9], none⟩,
    ⟨(some 11), .r (.load none), [.tmp 10], none⟩,
    ⟨(some 12), .p .lenSl, [.tmp 11], none⟩,
    ⟨(some 13), .p (.bin .lss), [.tmp 7, .tmp 12], none⟩])
  (.cond (.tmp 13) .skip
  (.exit 0)))
  (.seq (.block 1 (.seq (.reg [⟨(some 16), .p .move, [.tmp 0], none⟩,
    ⟨(some 17), .p .nilCheck, [.tmp 16], none⟩,
    ⟨(some 18), .p (.fieldAddr 12), [.tmp 17], none⟩,
    ⟨(some 19), .r (.load none), [.tmp 18], none⟩,
    ⟨(some 20), .p .move, [.tmp 4], none⟩,
    ⟨(some 21), .p (.indexAddr 1), [.tmp 19, .tmp 20], none⟩,
    ⟨(some 22), .r (.load none), [.tmp 21], none⟩,
    ⟨(some 5), .p .move, [.tmp 22], none⟩])
  (.seq (.seq (.reg [⟨(some 6), .p .move, [.lit (.int .i64 0)], none⟩])
  (.block 2 (.loop [0, 3, 4, 5, 6] (.seq (.seq (.reg [⟨(some 23), .p .move, [.tmp 6], none⟩,
    ⟨(some 24), .p (.bin .lss), [.tmp 23, .lit (.int .i64 12)], none⟩])
  (.cond (.tmp 24) .skip
  (.exit 2)))
  (.seq (.block 3 (.reg [⟨(some 27), .p .move, [.tmp 5], none⟩,
    ⟨(some 28), .p .move, [.tmp 4], none⟩,
    ⟨(some 29), .p .move, [.tmp 5], none⟩,
    ⟨(some 30), .p .lenSl, [.tmp 29], none⟩,
    ⟨(some 31), .h (.call 72), [.tmp 28, .tmp 30, .lit (.int .i64 1)], none⟩,
    ⟨(some 32), .h (.append 21 true), [.tmp 27, .tmp 31], none⟩,
    ⟨(some 5), .p .move, [.tmp 32], none⟩]))
  (.reg [⟨(some 25), .p .move, [.tmp 6], none⟩,
    ⟨(some 26), .p (.bin .add), [.tmp 25, .lit (.int .i64 1)], none⟩,
    ⟨(some 6), .p .move, [.tmp 26], none⟩]))))))
  (.reg [⟨(some 33), .p .move, [.tmp 3], none⟩,
    ⟨(some 34), .p .move, [.tmp 5], none⟩,
    ⟨(some 35), .p .move, [.tmp 4], none⟩,
    ⟨(some 36), .p .move, [.tmp 5], none⟩,
    ⟨(some 37), .p .lenSl, [.tmp 36], none⟩,
    ⟨(some 38), .h (.call 72), [.tmp 35, .tmp 37, .lit (.int .i64 60)], none⟩,
    ⟨(some 39), .h (.append 21 true), [.tmp 34, .tmp 38], none⟩,
    ⟨(some 40), .a (.buildSlice 1 1 [.nilslice] [0]), [.tmp 39], none⟩,
    ⟨(some 41), .h (.append 1 true), [.tmp 33, .tmp 40], none⟩,
    ⟨(some 3), .p .move, [.tmp 41], none⟩]))))
  (.reg [⟨(some 14), .p .move, [.tmp 4], none⟩,
    ⟨(some 15), .p (.bin .add), [.tmp 14, .lit (.int .i64 1)], none⟩,
    ⟨(some 4), .p .move, [.tmp 15], none⟩]))))))
  (.seq (.reg [⟨(some 42), .p .move, [.tmp 3], none⟩,
    ⟨(some 2), .p .move, [.tmp 42], none⟩])
  .ret)))), [.tmp 2]⟩
theorem c53 : cFunc Go.Proofs.Try.prog true 1 Go.Proofs.Try.f53 = some sf53 := by kernel_rfl

/-- rosary/rosarybook.markedTexts -/
def sf54 : SFunc := ⟨1, 23, (.seq (.reg [⟨(some 2), .p .move, [.lit (.bool false)], none⟩])
  (.seq (.seq (.reg [⟨(some 3), .p .move, [.lit (.int .i64 0)], none⟩])
  (.block 0 (.loop [0, 3] (.seq (.seq (.reg [⟨(some 4), .p .move, [.tmp 3], none⟩,
    ⟨(some 5), .p .move, [.tmp 0], none⟩,
    ⟨(some 6), .p .lenSl, [.tmp 5], none⟩,
    ⟨(some 7), .p (.bin .lss), [.tmp 4, .tmp 6], none⟩])
  (.cond (.tmp 7) .skip
  (.exit 0)))
  (.seq (.block 1 (.seq (.dreg [⟨[⟨(some 10), .p .move, [.tmp 0], none⟩,
    ⟨(some 11), .p .move, [.tmp 3], none⟩,
    ⟨(some 12), .p (.indexAddr 1), [.tmp 10, .tmp 11], none⟩,
    ⟨(some 13), .r (.load none), [.tmp 12], none⟩,
    ⟨(some 14), .p .move, [.tmp 3], none⟩,
    ⟨(some 15), .p .move, [.tmp 0], none⟩,
    ⟨(some 16), .p .move, [.tmp 3], none⟩,
    ⟨(some 17), .p (.indexAddr 1), [.tmp 15, .tmp 16], none⟩,
    ⟨(some 18), .r (.load none), [.tmp 17], none⟩,
    ⟨(some 19), .p .lenSl, [.tmp 18], none⟩], [], some ⟨(some 20), .h (.call 73), [.tmp 14, .lit (.int .i64 0), .tmp 19], none⟩⟩,
   ⟨[], [⟨(some 13), .r (.load none), [.tmp 12], none⟩], some ⟨(some 21), .h (.call 66), [.tmp 13, .tmp 20], none⟩⟩,
   ⟨[⟨(some 22), .p .not, [.tmp 21], none⟩], [], none⟩])
  (.cond (.tmp 22) (.seq (.reg [⟨(some 2), .p .move, [.lit (.bool false)], none⟩])
  .ret)
  .skip)))
  (.reg [⟨(some 8), .p .move, [.tmp 3], none⟩,
    ⟨(some 9), .p (.bin .add), [.tmp 8, .lit (.int .i64 1)], none⟩,
    ⟨(some 3), .p .move, [.tmp 9], none⟩]))))))
  (.seq (.reg [⟨(some 2), .p .move, [.lit (.bool true)], none⟩])
  .ret))), [.tmp 2]⟩
theorem c54 : cFunc Go.Proofs.Try.prog false 1 Go.Proofs.Try.f54 = some sf54 := by kernel_rfl

/-- rosary/rosarybook.markedInts -/
def sf55 : SFunc := ⟨1, 23, (.seq (.reg [⟨(some 2), .p .move, [.lit (.bool false)], none⟩])
  (.seq (.seq (.reg [⟨(some 3), .p .move, [.lit (.int .i64 0)], none⟩])
  (.block 0 (.loop [0, 3] (.seq (.seq (.reg [⟨(some 4), .p .move, [.tmp 3], none⟩,
    ⟨(some 5), .p .move, [.tmp 0], none⟩,
    ⟨(some 6), .p .lenSl, [.tmp 5], none⟩,
    ⟨(some 7), .p (.bin .lss), [.tmp 4, .tmp 6], none⟩])
  (.cond (.tmp 7) .skip
  (.exit 0)))
  (.seq (.block 1 (.seq (.dreg [⟨[⟨(some 10), .p .move, [.tmp 0], none⟩,
    ⟨(some 11), .p .move, [.tmp 3], none⟩,
    ⟨(some 12), .p (.indexAddr 1), [.tmp 10, .tmp 11], none⟩,
    ⟨(some 13), .r (.load none), [.tmp 12], none⟩,
    ⟨(some 14), .p .move, [.tmp 3], none⟩,
    ⟨(some 15), .p .move, [.tmp 0], none⟩,
    ⟨(some 16), .p .move, [.tmp 3], none⟩,
    ⟨(some 17), .p (.indexAddr 1), [.tmp 15, .tmp 16], none⟩,
    ⟨(some 18), .r (.load none), [.tmp 17], none⟩,
    ⟨(some 19), .p .lenSl, [.tmp 18], none⟩], [], some ⟨(some 20), .h (.call 74), [.tmp 14, .lit (.int .i64 0), .tmp 19], none⟩⟩,
   ⟨[], [⟨(some 13), .r (.load none), [.tmp 12], none⟩], some ⟨(some 21), .h (.call 67), [.tmp 13, .tmp 20], none⟩⟩,
   ⟨[⟨(some 22), .p .not, [.tmp 21], none⟩], [], none⟩])
  (.cond (.tmp 22) (.seq (.reg [⟨(some 2), .p .move, [.lit (.bool false)], none⟩])
  .ret)
  .skip)))
  (.reg [⟨(some 8), .p .move, [.tmp 3], none⟩,
    ⟨(some 9), .p (.bin .add), [.tmp 8, .lit (.int .i64 1)], none⟩,
    ⟨(some 3), .p .move, [.tmp 9], none⟩]))))))
  (.seq (.reg [⟨(some 2), .p .move, [.lit (.bool true)], none⟩])
  .ret))), [.tmp 2]⟩
theorem c55 : cFunc Go.Proofs.Try.prog false 1 Go.Proofs.Try.f55 = some sf55 := by kernel_rfl

/-- rosary/rosarybook.markedPoints -/
def sf56 : SFunc := ⟨1, 23, (.seq (.reg [⟨(some 2), .p .move, [.lit (.bool false)], none⟩])
  (.seq (.seq (.reg [⟨(some 3), .p .move, [.lit (.int .i64 0)], none⟩])
  (.block 0 (.loop [0, 3] (.seq (.seq (.reg [⟨(some 4), .p .move, [.tmp 3], none⟩,
    ⟨(some 5), .p .move, [.tmp 0], none⟩,
    ⟨(some 6), .p .lenSl, [.tmp 5], none⟩,
    ⟨(some 7), .p (.bin .lss), [.tmp 4, .tmp 6], none⟩])
  (.cond (.tmp 7) .skip
  (.exit 0)))
  (.seq (.block 1 (.seq (.dreg [⟨[⟨(some 10), .p .move, [.tmp 0], none⟩,
    ⟨(some 11), .p .move, [.tmp 3], none⟩,
    ⟨(some 12), .p (.indexAddr 1), [.tmp 10, .tmp 11], none⟩,
    ⟨(some 13), .r (.load none), [.tmp 12], none⟩,
    ⟨(some 14), .p .move, [.tmp 3], none⟩,
    ⟨(some 15), .p .move, [.tmp 0], none⟩,
    ⟨(some 16), .p .move, [.tmp 3], none⟩,
    ⟨(some 17), .p (.indexAddr 1), [.tmp 15, .tmp 16], none⟩,
    ⟨(some 18), .r (.load none), [.tmp 17], none⟩,
    ⟨(some 19), .p .lenSl, [.tmp 18], none⟩], [], some ⟨(some 20), .h (.call 75), [.tmp 14, .lit (.int .i64 0), .tmp 19], none⟩⟩,
   ⟨[], [⟨(some 13), .r (.load none), [.tmp 12], none⟩], some ⟨(some 21), .h (.call 68), [.tmp 13, .tmp 20], none⟩⟩,
   ⟨[⟨(some 22), .p .not, [.tmp 21], none⟩], [], none⟩])
  (.cond (.tmp 22) (.seq (.reg [⟨(some 2), .p .move, [.lit (.bool false)], none⟩])
  .ret)
  .skip)))
  (.reg [⟨(some 8), .p .move, [.tmp 3], none⟩,
    ⟨(some 9), .p (.bin .add), [.tmp 8, .lit (.int .i64 1)], none⟩,
    ⟨(some 3), .p .move, [.tmp 9], none⟩]))))))
  (.seq (.reg [⟨(some 2), .p .move, [.lit (.bool true)], none⟩])
  .ret))), [.tmp 2]⟩
theorem c56 : cFunc Go.Proofs.Try.prog false 1 Go.Proofs.Try.f56 = some sf56 := by kernel_rfl

/-- rosary/rosarybook.markedItems -/
def sf57 : SFunc := ⟨1, 23, (.seq (.reg [⟨(some 2), .p .move, [.lit (.bool false)], none⟩])
  (.seq (.seq (.reg [⟨(some 3), .p .move, [.lit (.int .i64 0)], none⟩])
  (.block 0 (.loop [0, 3] (.seq (.seq (.reg [⟨(some 4), .p .move, [.tmp 3], none⟩,
    ⟨(some 5), .p .move, [.tmp 0], none⟩,
    ⟨(some 6), .p .lenSl, [.tmp 5], none⟩,
    ⟨(some 7), .p (.bin .lss), [.tmp 4, .tmp 6], none⟩])
  (.cond (.tmp 7) .skip
  (.exit 0)))
  (.seq (.block 1 (.seq (.dreg [⟨[⟨(some 10), .p .move, [.tmp 0], none⟩,
    ⟨(some 11), .p .move, [.tmp 3], none⟩,
    ⟨(some 12), .p (.indexAddr 1), [.tmp 10, .tmp 11], none⟩,
    ⟨(some 13), .r (.load none), [.tmp 12], none⟩,
    ⟨(some 14), .p .move, [.tmp 3], none⟩,
    ⟨(some 15), .p .move, [.tmp 0], none⟩,
    ⟨(some 16), .p .move, [.tmp 3], none⟩,
    ⟨(some 17), .p (.indexAddr 1), [.tmp 15, .tmp 16], none⟩,
    ⟨(some 18), .r (.load none), [.tmp 17], none⟩,
    ⟨(some 19), .p .lenSl, [.tmp 18], none⟩], [], some ⟨(some 20), .h (.call 76), [.tmp 14, .lit (.int .i64 0), .tmp 19], none⟩⟩,
   ⟨[], [⟨(some 13), .r (.load none), [.tmp 12], none⟩], some ⟨(some 21), .h (.call 64), [.tmp 13, .tmp 20], none⟩⟩,
   ⟨[⟨(some 22), .p .not, [.tmp 21], none⟩], [], none⟩])
  (.cond (.tmp 22) (.seq (.reg [⟨(some 2), .p .move, [.lit (.bool false)], none⟩])
  .ret)
  .skip)))
  (.reg [⟨(some 8), .p .move, [.tmp 3], none⟩,
    ⟨(some 9), .p (.bin .add), [.tmp 8, .lit (.int .i64 1)], none⟩,
    ⟨(some 3), .p .move, [.tmp 9], none⟩]))))))
  (.seq (.reg [⟨(some 2), .p .move, [.lit (.bool true)], none⟩])
  .ret))), [.tmp 2]⟩
theorem c57 : cFunc Go.Proofs.Try.prog false 1 Go.Proofs.Try.f57 = some sf57 := by kernel_rfl

/-- rosary/rosarybook.markedOwneds -/
def sf58 : SFunc := ⟨1, 23, (.seq (.reg [⟨(some 2), .p .move, [.lit (.bool false)], none⟩])
  (.seq (.seq (.reg [⟨(some 3), .p .move, [.lit (.int .i64 0)], none⟩])
  (.block 0 (.loop [0, 3] (.seq (.seq (.reg [⟨(some 4), .p .move, [.tmp 3], none⟩,
    ⟨(some 5), .p .move, [.tmp 0], none⟩,
    ⟨(some 6), .p .lenSl, [.tmp 5], none⟩,
    ⟨(some 7), .p (.bin .lss), [.tmp 4, .tmp 6], none⟩])
  (.cond (.tmp 7) .skip
  (.exit 0)))
  (.seq (.block 1 (.seq (.dreg [⟨[⟨(some 10), .p .move, [.tmp 0], none⟩,
    ⟨(some 11), .p .move, [.tmp 3], none⟩,
    ⟨(some 12), .p (.indexAddr 1), [.tmp 10, .tmp 11], none⟩,
    ⟨(some 13), .r (.load none), [.tmp 12], none⟩,
    ⟨(some 14), .p .move, [.tmp 3], none⟩,
    ⟨(some 15), .p .move, [.tmp 0], none⟩,
    ⟨(some 16), .p .move, [.tmp 3], none⟩,
    ⟨(some 17), .p (.indexAddr 1), [.tmp 15, .tmp 16], none⟩,
    ⟨(some 18), .r (.load none), [.tmp 17], none⟩,
    ⟨(some 19), .p .lenSl, [.tmp 18], none⟩], [], some ⟨(some 20), .h (.call 77), [.tmp 14, .lit (.int .i64 0), .tmp 19], none⟩⟩,
   ⟨[], [⟨(some 13), .r (.load none), [.tmp 12], none⟩], some ⟨(some 21), .h (.call 69), [.tmp 13, .tmp 20], none⟩⟩,
   ⟨[⟨(some 22), .p .not, [.tmp 21], none⟩], [], none⟩])
  (.cond (.tmp 22) (.seq (.reg [⟨(some 2), .p .move, [.lit (.bool false)], none⟩])
  .ret)
  .skip)))
  (.reg [⟨(some 8), .p .move, [.tmp 3], none⟩,
    ⟨(some 9), .p (.bin .add), [.tmp 8, .lit (.int .i64 1)], none⟩,
    ⟨(some 3), .p .move, [.tmp 9], none⟩]))))))
  (.seq (.reg [⟨(some 2), .p .move, [.lit (.bool true)], none⟩])
  .ret))), [.tmp 2]⟩
theorem c58 : cFunc Go.Proofs.Try.prog false 1 Go.Proofs.Try.f58 = some sf58 := by kernel_rfl

/-- rosary/rosarybook.markedEvents -/
def sf59 : SFunc := ⟨1, 23, (.seq (.reg [⟨(some 2), .p .move, [.lit (.bool false)], none⟩])
  (.seq (.seq (.reg [⟨(some 3), .p .move, [.lit (.int .i64 0)], none⟩])
  (.block 0 (.loop [0, 3] (.seq (.seq (.reg [⟨(some 4), .p .move, [.tmp 3], none⟩,
    ⟨(some 5), .p .move, [.tmp 0], none⟩,
    ⟨(some 6), .p .lenSl, [.tmp 5], none⟩,
    ⟨(some 7), .p (.bin .lss), [.tmp 4, .tmp 6], none⟩])
  (.cond (.tmp 7) .skip
  (.exit 0)))
  (.seq (.block 1 (.seq (.dreg [⟨[⟨(some 10), .p .move, [.tmp 0], none⟩,
    ⟨(some 11), .p .move, [.tmp 3], none⟩,
    ⟨(some 12), .p (.indexAddr 1), [.tmp 10, .tmp 11], none⟩,
    ⟨(some 13), .r (.load none), [.tmp 12], none⟩,
    ⟨(some 14), .p .move, [.tmp 3], none⟩,
    ⟨(some 15), .p .move, [.tmp 0], none⟩,
    ⟨(some 16), .p .move, [.tmp 3], none⟩,
    ⟨(some 17), .p (.indexAddr 1), [.tmp 15, .tmp 16], none⟩,
    ⟨(some 18), .r (.load none), [.tmp 17], none⟩,
    ⟨(some 19), .p .lenSl, [.tmp 18], none⟩], [], some ⟨(some 20), .h (.call 71), [.tmp 14, .lit (.int .i64 0), .tmp 19], none⟩⟩,
   ⟨[], [⟨(some 13), .r (.load none), [.tmp 12], none⟩], some ⟨(some 21), .h (.call 70), [.tmp 13, .tmp 20], none⟩⟩,
   ⟨[⟨(some 22), .p .not, [.tmp 21], none⟩], [], none⟩])
  (.cond (.tmp 22) (.seq (.reg [⟨(some 2), .p .move, [.lit (.bool false)], none⟩])
  .ret)
  .skip)))
  (.reg [⟨(some 8), .p .move, [.tmp 3], none⟩,
    ⟨(some 9), .p (.bin .add), [.tmp 8, .lit (.int .i64 1)], none⟩,
    ⟨(some 3), .p .move, [.tmp 9], none⟩]))))))
  (.seq (.reg [⟨(some 2), .p .move, [.lit (.bool true)], none⟩])
  .ret))), [.tmp 2]⟩
theorem c59 : cFunc Go.Proofs.Try.prog false 1 Go.Proofs.Try.f59 = some sf59 := by kernel_rfl

/-- rosary/rosarybook.markedLetters -/
def sf60 : SFunc := ⟨1, 23, (.seq (.reg [⟨(some 2), .p .move, [.lit (.bool false)], none⟩])
  (.seq (.seq (.reg [⟨(some 3), .p .move, [.lit (.int .i64 0)], none⟩])
  (.block 0 (.loop [0, 3] (.seq (.seq (.reg [⟨(some 4), .p .move, [.tmp 3], none⟩,
    ⟨(some 5), .p .move, [.tmp 0], none⟩,
    ⟨(some 6), .p .lenSl, [.tmp 5], none⟩,
    ⟨(some 7), .p (.bin .lss), [.tmp 4, .tmp 6], none⟩])
  (.cond (.tmp 7) .skip
  (.exit 0)))
  (.seq (.block 1 (.seq (.dreg [⟨[⟨(some 10), .p .move, [.tmp 0], none⟩,
    ⟨(some 11), .p .move, [.tmp 3], none⟩,
    ⟨(some 12), .p (.indexAddr 1), [.tmp 10, .tmp 11], none⟩,
    ⟨(some 13), .r (.load none), [.tmp 12], none⟩,
    ⟨(some 14), .p .move, [.tmp 3], none⟩,
    ⟨(some 15), .p .move, [.tmp 0], none⟩,
    ⟨(some 16), .p .move, [.tmp 3], none⟩,
    ⟨(some 17), .p (.indexAddr 1), [.tmp 15, .tmp 16], none⟩,
    ⟨(some 18), .r (.load none), [.tmp 17], none⟩,
    ⟨(some 19), .p .lenSl, [.tmp 18], none⟩], [], some ⟨(some 20), .h (.call 72), [.tmp 14, .lit (.int .i64 0), .tmp 19], none⟩⟩,
   ⟨[], [⟨(some 13), .r (.load none), [.tmp 12], none⟩], some ⟨(some 21), .h (.call 23), [.tmp 13, .tmp 20], none⟩⟩,
   ⟨[⟨(some 22), .p .not, [.tmp 21], none⟩], [], none⟩])
  (.cond (.tmp 22) (.seq (.reg [⟨(some 2), .p .move, [.lit (.bool false)], none⟩])
  .ret)
  .skip)))
  (.reg [⟨(some 8), .p .move, [.tmp 3], none⟩,
    ⟨(some 9), .p (.bin .add), [.tmp 8, .lit (.int .i64 1)], none⟩,
    ⟨(some 3), .p .move, [.tmp 9], none⟩]))))))
  (.seq (.reg [⟨(some 2), .p .move, [.lit (.bool true)], none⟩])
  .ret))), [.tmp 2]⟩
theorem c60 : cFunc Go.Proofs.Try.prog false 1 Go.Proofs.Try.f60 = some sf60 := by kernel_rfl

/-- slices.IndexFunc[[]rosary/link.sent,rosary/link.sent] -/
def sf61 : SFunc := ⟨2, 19, (.seq (.reg [⟨(some 4), .p .move, [.lit (.int .i64 0)], none⟩])
  (.seq (.seq (.reg [⟨(some 6), .p .move, [.tmp 0], none⟩,
    ⟨(some 7), .p .lenSl, [.tmp 6], none⟩,
    ⟨(some 8), .p .move, [.lit (.int .i64 0)], none⟩])
  (.block 0 (.loop [0, 1, 7, 8] (.seq (.reg [⟨(some 9), .p (.bin .lss), [.tmp 8, .tmp 7], none⟩])
  (.seq (.cond (.tmp 9) .skip
  (.exit 0))
  (.seq (.block 1 (.seq (.reg [⟨(some 10), .p .move, [.tmp 8], none⟩,
    ⟨(some 5), .p .move, [.tmp 10], none⟩])
  (.seq (.reg [⟨(some 11), .p .move, [.tmp 1], none⟩,
    ⟨(some 12), .p .move, [.tmp 0], none⟩,
    ⟨(some 13), .p .move, [.tmp 5], none⟩,
    ⟨(some 14), .p (.indexAddr 23), [.tmp 12, .tmp 13], none⟩,
    ⟨(some 15), .r (.load (some 23)), [.tmp 14], none⟩,
    ⟨(some 16), .h .callV, [.tmp 11, .tmp 15], none⟩])
  (.cond (.tmp 16) (.seq (.reg [⟨(some 17), .p .move, [.tmp 5], none⟩,
    ⟨(some 4), .p .move, [.tmp 17], none⟩])
  .ret)
  .skip))))
  (.reg [⟨(some 18), .p (.bin .add), [.tmp 8, .lit (.int .i64 1)], none⟩,
    ⟨(some 8), .p .move, [.tmp 18], none⟩])))))))
  (.seq (.reg [⟨(some 4), .p .move, [.lit (.int .i64 (-1))], none⟩])
  .ret))), [.tmp 4]⟩
theorem c61 : cFunc Go.Proofs.Try.prog false 2 Go.Proofs.Try.f61 = some sf61 := by kernel_rfl

/-- slices.Clone[[]rosary/api.Item,rosary/api.Item] -/
def sf62 : SFunc := ⟨1, 8, (.seq (.reg [⟨(some 2), .p .move, [.lit .nilslice], none⟩])
  (.seq (.seq (.reg [⟨(some 3), .p .move, [.tmp 0], none⟩,
    ⟨(some 4), .p (.eq false .slice), [.tmp 3, .lit .nilslice], none⟩])
  (.cond (.tmp 4) (.seq (.reg [⟨(some 2), .p .move, [.lit .nilslice], none⟩])
  .ret)
  .skip))
  (.seq (.reg [⟨(some 5), .a (.buildSlice 2 0 [(.str []), (.str [])] []), [], none⟩,
    ⟨(some 6), .p .move, [.tmp 0], none⟩,
    ⟨(some 7), .h (.append 2 false), [.tmp 5, .tmp 6], none⟩,
    ⟨(some 2), .p .move, [.tmp 7], none⟩])
  .ret))), [.tmp 2]⟩
theorem c62 : cFunc Go.Proofs.Try.prog false 1 Go.Proofs.Try.f62 = some sf62 := by kernel_rfl

/-- rosary/rosarybook.SameTold -/
def sf63 : SFunc := ⟨2, 45, (.seq (.reg [⟨(some 2), .a .box, [.tmp 0], none⟩,
    ⟨(some 3), .a .box, [.tmp 1], none⟩,
    ⟨(some 4), .p .move, [.lit (.bool false)], none⟩])
  (.seq (.reg [⟨(some 5), .p (.fieldAddr 0), [.tmp 2], none⟩,
    ⟨(some 6), .r (.load none), [.tmp 5], none⟩,
    ⟨(some 7), .p (.fieldAddr 0), [.tmp 3], none⟩,
    ⟨(some 8), .r (.load none), [.tmp 7], none⟩,
    ⟨(some 9), .p (.bin .eql), [.tmp 6, .tmp 8], none⟩,
    ⟨(some 10), .p .move, [.tmp 9], none⟩,
    ⟨(some 11), .p (.fieldAddr 1), [.tmp 2], some (10, true)⟩,
    ⟨(some 12), .r (.load none), [.tmp 11], some (10, true)⟩,
    ⟨(some 13), .p (.fieldAddr 1), [.tmp 3], some (10, true)⟩,
    ⟨(some 14), .r (.load none), [.tmp 13], some (10, true)⟩,
    ⟨(some 15), .p (.bin .eql), [.tmp 12, .tmp 14], some (10, true)⟩,
    ⟨(some 16), .p .pick, [.tmp 10, .tmp 15, .lit (.bool false)], none⟩,
    ⟨(some 17), .p .move, [.tmp 16], none⟩,
    ⟨(some 18), .p (.fieldAddr 2), [.tmp 2], some (17, true)⟩,
    ⟨(some 19), .r (.load none), [.tmp 18], some (17, true)⟩,
    ⟨(some 20), .p (.fieldAddr 2), [.tmp 3], some (17, true)⟩,
    ⟨(some 21), .r (.load none), [.tmp 20], some (17, true)⟩,
    ⟨(some 22), .h (.call 64), [.tmp 19, .tmp 21], some (17, true)⟩,
    ⟨(some 23), .p .pick, [.tmp 17, .tmp 22, .lit (.bool false)], none⟩,
    ⟨(some 24), .p .move, [.tmp 23], none⟩,
    ⟨(some 25), .p (.fieldAddr 3), [.tmp 2], some (24, true)⟩,
    ⟨(some 26), .r (.load none), [.tmp 25], some (24, true)⟩,
    ⟨(some 27), .p (.fieldAddr 3), [.tmp 3], some (24, true)⟩,
    ⟨(some 28), .r (.load none), [.tmp 27], some (24, true)⟩,
    ⟨(some 29), .p (.eq false .bool), [.tmp 26, .tmp 28], some (24, true)⟩,
    ⟨(some 30), .p .pick, [.tmp 24, .tmp 29, .lit (.bool false)], none⟩,
    ⟨(some 31), .p .move, [.tmp 30], none⟩,
    ⟨(some 32), .p (.fieldAddr 4), [.tmp 2], some (31, true)⟩,
    ⟨(some 33), .r (.load none), [.tmp 32], some (31, true)⟩,
    ⟨(some 34), .p (.fieldAddr 4), [.tmp 3], some (31, true)⟩,
    ⟨(some 35), .r (.load none), [.tmp 34], some (31, true)⟩,
    ⟨(some 36), .p (.bin .eql), [.tmp 33, .tmp 35], some (31, true)⟩,
    ⟨(some 37), .p .pick, [.tmp 31, .tmp 36, .lit (.bool false)], none⟩,
    ⟨(some 38), .p .move, [.tmp 37], none⟩,
    ⟨(some 39), .p (.fieldAddr 5), [.tmp 2], some (38, true)⟩,
    ⟨(some 40), .r (.load none), [.tmp 39], some (38, true)⟩,
    ⟨(some 41), .p (.fieldAddr 5), [.tmp 3], some (38, true)⟩,
    ⟨(some 42), .r (.load none), [.tmp 41], some (38, true)⟩,
    ⟨(some 43), .p (.bin .eql), [.tmp 40, .tmp 42], some (38, true)⟩,
    ⟨(some 44), .p .pick, [.tmp 38, .tmp 43, .lit (.bool false)], none⟩,
    ⟨(some 4), .p .move, [.tmp 44], none⟩])
  .ret)), [.tmp 4]⟩
theorem c63 : cFunc Go.Proofs.Try.prog false 2 Go.Proofs.Try.f63 = some sf63 := by kernel_rfl

/-- rosary/rosarybook.SameItems -/
def sf64 : SFunc := ⟨2, 27, (.seq (.reg [⟨(some 4), .p .move, [.lit (.bool false)], none⟩])
  (.seq (.seq (.reg [⟨(some 6), .p .move, [.tmp 0], none⟩,
    ⟨(some 7), .p .lenSl, [.tmp 6], none⟩,
    ⟨(some 8), .p .move, [.tmp 1], none⟩,
    ⟨(some 9), .p .lenSl, [.tmp 8], none⟩,
    ⟨(some 10), .p (.bin .neq), [.tmp 7, .tmp 9], none⟩])
  (.cond (.tmp 10) (.seq (.reg [⟨(some 4), .p .move, [.lit (.bool false)], none⟩])
  .ret)
  .skip))
  (.seq (.seq (.reg [⟨(some 5), .p .move, [.lit (.int .i64 0)], none⟩])
  (.block 0 (.loop [0, 1, 5] (.seq (.seq (.reg [⟨(some 11), .p .move, [.tmp 5], none⟩,
    ⟨(some 12), .p .move, [.tmp 0], none⟩,
    ⟨(some 13), .p .lenSl, [.tmp 12], none⟩,
    ⟨(some 14), .p (.bin .lss), [.tmp 11, .tmp 13], none⟩])
  (.cond (.tmp 14) .skip
  (.exit 0)))
  (.seq (.block 1 (.seq (.dreg [⟨[⟨(some 17), .p .move, [.tmp 0], none⟩,
    ⟨(some 18), .p .move, [.tmp 5], none⟩,
    ⟨(some 19), .p (.indexAddr 2), [.tmp 17, .tmp 18], none⟩,
    ⟨(some 20), .r (.load (some 2)), [.tmp 19], none⟩,
    ⟨(some 21), .p .move, [.tmp 1], none⟩,
    ⟨(some 22), .p .move, [.tmp 5], none⟩,
    ⟨(some 23), .p (.indexAddr 2), [.tmp 21, .tmp 22], none⟩,
    ⟨(some 24), .r (.load (some 2)), [.tmp 23], none⟩,
    ⟨(some 25), .p (.eq false (.agg [.str, .str])), [.tmp 20, .tmp 24], none⟩,
    ⟨(some 26), .p .not, [.tmp 25], none⟩], [], none⟩])
  (.cond (.tmp 26) (.seq (.reg [⟨(some 4), .p .move, [.lit (.bool false)], none⟩])
  .ret)
  .skip)))
  (.reg [⟨(some 15), .p .move, [.tmp 5], none⟩,
    ⟨(some 16), .p (.bin .add), [.tmp 15, .lit (.int .i64 1)], none⟩,
    ⟨(some 5), .p .move, [.tmp 16], none⟩]))))))
  (.seq (.reg [⟨(some 4), .p .move, [.lit (.bool true)], none⟩])
  .ret)))), [.tmp 4]⟩
theorem c64 : cFunc Go.Proofs.Try.prog false 2 Go.Proofs.Try.f64 = some sf64 := by kernel_rfl

/-- rosary/rosarybook.copyItems -/
def sf65 : SFunc := ⟨1, 5, (.seq (.reg [⟨(some 2), .p .move, [.lit .nilslice], none⟩])
  (.seq (.reg [⟨(some 3), .p .move, [.tmp 0], none⟩,
    ⟨(some 4), .h (.append 2 false), [.lit .nilslice, .tmp 3], none⟩,
    ⟨(some 2), .p .move, [.tmp 4], none⟩])
  .ret)), [.tmp 2]⟩
theorem c65 : cFunc Go.Proofs.Try.prog false 1 Go.Proofs.Try.f65 = some sf65 := by kernel_rfl

/-- rosary/rosarybook.SameTexts -/
def sf66 : SFunc := ⟨2, 27, (.seq (.reg [⟨(some 4), .p .move, [.lit (.bool false)], none⟩])
  (.seq (.seq (.reg [⟨(some 6), .p .move, [.tmp 0], none⟩,
    ⟨(some 7), .p .lenSl, [.tmp 6], none⟩,
    ⟨(some 8), .p .move, [.tmp 1], none⟩,
    ⟨(some 9), .p .lenSl, [.tmp 8], none⟩,
    ⟨(some 10), .p (.bin .neq), [.tmp 7, .tmp 9], none⟩])
  (.cond (.tmp 10) (.seq (.reg [⟨(some 4), .p .move, [.lit (.bool false)], none⟩])
  .ret)
  .skip))
  (.seq (.seq (.reg [⟨(some 5), .p .move, [.lit (.int .i64 0)], none⟩])
  (.block 0 (.loop [0, 1, 5] (.seq (.seq (.reg [⟨(some 11), .p .move, [.tmp 5], none⟩,
    ⟨(some 12), .p .move, [.tmp 0], none⟩,
    ⟨(some 13), .p .lenSl, [.tmp 12], none⟩,
    ⟨(some 14), .p (.bin .lss), [.tmp 11, .tmp 13], none⟩])
  (.cond (.tmp 14) .skip
  (.exit 0)))
  (.seq (.block 1 (.seq (.dreg [⟨[⟨(some 17), .p .move, [.tmp 0], none⟩,
    ⟨(some 18), .p .move, [.tmp 5], none⟩,
    ⟨(some 19), .p (.indexAddr 1), [.tmp 17, .tmp 18], none⟩,
    ⟨(some 20), .r (.load none), [.tmp 19], none⟩,
    ⟨(some 21), .p .move, [.tmp 1], none⟩,
    ⟨(some 22), .p .move, [.tmp 5], none⟩,
    ⟨(some 23), .p (.indexAddr 1), [.tmp 21, .tmp 22], none⟩,
    ⟨(some 24), .r (.load none), [.tmp 23], none⟩,
    ⟨(some 25), .p (.bin .eql), [.tmp 20, .tmp 24], none⟩,
    ⟨(some 26), .p .not, [.tmp 25], none⟩], [], none⟩])
  (.cond (.tmp 26) (.seq (.reg [⟨(some 4), .p .move, [.lit (.bool false)], none⟩])
  .ret)
  .skip)))
  (.reg [⟨(some 15), .p .move, [.tmp 5], none⟩,
    ⟨(some 16), .p (.bin .add), [.tmp 15, .lit (.int .i64 1)], none⟩,
    ⟨(some 5), .p .move, [.tmp 16], none⟩]))))))
  (.seq (.reg [⟨(some 4), .p .move, [.lit (.bool true)], none⟩])
  .ret)))), [.tmp 4]⟩
theorem c66 : cFunc Go.Proofs.Try.prog false 2 Go.Proofs.Try.f66 = some sf66 := by kernel_rfl

/-- rosary/rosarybook.SameInts -/
def sf67 : SFunc := ⟨2, 27, (.seq (.reg [⟨(some 4), .p .move, [.lit (.bool false)], none⟩])
  (.seq (.seq (.reg [⟨(some 6), .p .move, [.tmp 0], none⟩,
    ⟨(some 7), .p .lenSl, [.tmp 6], none⟩,
    ⟨(some 8), .p .move, [.tmp 1], none⟩,
    ⟨(some 9), .p .lenSl, [.tmp 8], none⟩,
    ⟨(some 10), .p (.bin .neq), [.tmp 7, .tmp 9], none⟩])
  (.cond (.tmp 10) (.seq (.reg [⟨(some 4), .p .move, [.lit (.bool false)], none⟩])
  .ret)
  .skip))
  (.seq (.seq (.reg [⟨(some 5), .p .move, [.lit (.int .i64 0)], none⟩])
  (.block 0 (.loop [0, 1, 5] (.seq (.seq (.reg [⟨(some 11), .p .move, [.tmp 5], none⟩,
    ⟨(some 12), .p .move, [.tmp 0], none⟩,
    ⟨(some 13), .p .lenSl, [.tmp 12], none⟩,
    ⟨(some 14), .p (.bin .lss), [.tmp 11, .tmp 13], none⟩])
  (.cond (.tmp 14) .skip
  (.exit 0)))
  (.seq (.block 1 (.seq (.dreg [⟨[⟨(some 17), .p .move, [.tmp 0], none⟩,
    ⟨(some 18), .p .move, [.tmp 5], none⟩,
    ⟨(some 19), .p (.indexAddr 1), [.tmp 17, .tmp 18], none⟩,
    ⟨(some 20), .r (.load none), [.tmp 19], none⟩,
    ⟨(some 21), .p .move, [.tmp 1], none⟩,
    ⟨(some 22), .p .move, [.tmp 5], none⟩,
    ⟨(some 23), .p (.indexAddr 1), [.tmp 21, .tmp 22], none⟩,
    ⟨(some 24), .r (.load none), [.tmp 23], none⟩,
    ⟨(some 25), .p (.bin .eql), [.tmp 20, .tmp 24], none⟩,
    ⟨(some 26), .p .not, [.tmp 25], none⟩], [], none⟩])
  (.cond (.tmp 26) (.seq (.reg [⟨(some 4), .p .move, [.lit (.bool false)], none⟩])
  .ret)
  .skip)))
  (.reg [⟨(some 15), .p .move, [.tmp 5], none⟩,
    ⟨(some 16), .p (.bin .add), [.tmp 15, .lit (.int .i64 1)], none⟩,
    ⟨(some 5), .p .move, [.tmp 16], none⟩]))))))
  (.seq (.reg [⟨(some 4), .p .move, [.lit (.bool true)], none⟩])
  .ret)))), [.tmp 4]⟩
theorem c67 : cFunc Go.Proofs.Try.prog false 2 Go.Proofs.Try.f67 = some sf67 := by kernel_rfl

/-- rosary/rosarybook.SamePoints -/
def sf68 : SFunc := ⟨2, 27, (.seq (.reg [⟨(some 4), .p .move, [.lit (.bool false)], none⟩])
  (.seq (.seq (.reg [⟨(some 6), .p .move, [.tmp 0], none⟩,
    ⟨(some 7), .p .lenSl, [.tmp 6], none⟩,
    ⟨(some 8), .p .move, [.tmp 1], none⟩,
    ⟨(some 9), .p .lenSl, [.tmp 8], none⟩,
    ⟨(some 10), .p (.bin .neq), [.tmp 7, .tmp 9], none⟩])
  (.cond (.tmp 10) (.seq (.reg [⟨(some 4), .p .move, [.lit (.bool false)], none⟩])
  .ret)
  .skip))
  (.seq (.seq (.reg [⟨(some 5), .p .move, [.lit (.int .i64 0)], none⟩])
  (.block 0 (.loop [0, 1, 5] (.seq (.seq (.reg [⟨(some 11), .p .move, [.tmp 5], none⟩,
    ⟨(some 12), .p .move, [.tmp 0], none⟩,
    ⟨(some 13), .p .lenSl, [.tmp 12], none⟩,
    ⟨(some 14), .p (.bin .lss), [.tmp 11, .tmp 13], none⟩])
  (.cond (.tmp 14) .skip
  (.exit 0)))
  (.seq (.block 1 (.seq (.dreg [⟨[⟨(some 17), .p .move, [.tmp 0], none⟩,
    ⟨(some 18), .p .move, [.tmp 5], none⟩,
    ⟨(some 19), .p (.indexAddr 1), [.tmp 17, .tmp 18], none⟩,
    ⟨(some 20), .r (.load none), [.tmp 19], none⟩,
    ⟨(some 21), .p .move, [.tmp 1], none⟩,
    ⟨(some 22), .p .move, [.tmp 5], none⟩,
    ⟨(some 23), .p (.indexAddr 1), [.tmp 21, .tmp 22], none⟩,
    ⟨(some 24), .r (.load none), [.tmp 23], none⟩,
    ⟨(some 25), .p (.bin .eql), [.tmp 20, .tmp 24], none⟩,
    ⟨(some 26), .p .not, [.tmp 25], none⟩], [], none⟩])
  (.cond (.tmp 26) (.seq (.reg [⟨(some 4), .p .move, [.lit (.bool false)], none⟩])
  .ret)
  .skip)))
  (.reg [⟨(some 15), .p .move, [.tmp 5], none⟩,
    ⟨(some 16), .p (.bin .add), [.tmp 15, .lit (.int .i64 1)], none⟩,
    ⟨(some 5), .p .move, [.tmp 16], none⟩]))))))
  (.seq (.reg [⟨(some 4), .p .move, [.lit (.bool true)], none⟩])
  .ret)))), [.tmp 4]⟩
theorem c68 : cFunc Go.Proofs.Try.prog false 2 Go.Proofs.Try.f68 = some sf68 := by kernel_rfl

/-- rosary/rosarybook.SameOwneds -/
def sf69 : SFunc := ⟨2, 27, (.seq (.reg [⟨(some 4), .p .move, [.lit (.bool false)], none⟩])
  (.seq (.seq (.reg [⟨(some 6), .p .move, [.tmp 0], none⟩,
    ⟨(some 7), .p .lenSl, [.tmp 6], none⟩,
    ⟨(some 8), .p .move, [.tmp 1], none⟩,
    ⟨(some 9), .p .lenSl, [.tmp 8], none⟩,
    ⟨(some 10), .p (.bin .neq), [.tmp 7, .tmp 9], none⟩])
  (.cond (.tmp 10) (.seq (.reg [⟨(some 4), .p .move, [.lit (.bool false)], none⟩])
  .ret)
  .skip))
  (.seq (.seq (.reg [⟨(some 5), .p .move, [.lit (.int .i64 0)], none⟩])
  (.block 0 (.loop [0, 1, 5] (.seq (.seq (.reg [⟨(some 11), .p .move, [.tmp 5], none⟩,
    ⟨(some 12), .p .move, [.tmp 0], none⟩,
    ⟨(some 13), .p .lenSl, [.tmp 12], none⟩,
    ⟨(some 14), .p (.bin .lss), [.tmp 11, .tmp 13], none⟩])
  (.cond (.tmp 14) .skip
  (.exit 0)))
  (.seq (.block 1 (.seq (.dreg [⟨[⟨(some 17), .p .move, [.tmp 0], none⟩,
    ⟨(some 18), .p .move, [.tmp 5], none⟩,
    ⟨(some 19), .p (.indexAddr 4), [.tmp 17, .tmp 18], none⟩,
    ⟨(some 20), .r (.load (some 4)), [.tmp 19], none⟩,
    ⟨(some 21), .p .move, [.tmp 1], none⟩,
    ⟨(some 22), .p .move, [.tmp 5], none⟩,
    ⟨(some 23), .p (.indexAddr 4), [.tmp 21, .tmp 22], none⟩,
    ⟨(some 24), .r (.load (some 4)), [.tmp 23], none⟩,
    ⟨(some 25), .p (.eq false (.agg [.int, .int, .int, .int])), [.tmp 20, .tmp 24], none⟩,
    ⟨(some 26), .p .not, [.tmp 25], none⟩], [], none⟩])
  (.cond (.tmp 26) (.seq (.reg [⟨(some 4), .p .move, [.lit (.bool false)], none⟩])
  .ret)
  .skip)))
  (.reg [⟨(some 15), .p .move, [.tmp 5], none⟩,
    ⟨(some 16), .p (.bin .add), [.tmp 15, .lit (.int .i64 1)], none⟩,
    ⟨(some 5), .p .move, [.tmp 16], none⟩]))))))
  (.seq (.reg [⟨(some 4), .p .move, [.lit (.bool true)], none⟩])
  .ret)))), [.tmp 4]⟩
theorem c69 : cFunc Go.Proofs.Try.prog false 2 Go.Proofs.Try.f69 = some sf69 := by kernel_rfl

/-- rosary/rosarybook.SameEvents -/
def sf70 : SFunc := ⟨2, 27, (.seq (.reg [⟨(some 4), .p .move, [.lit (.bool false)], none⟩])
  (.seq (.seq (.reg [⟨(some 6), .p .move, [.tmp 0], none⟩,
    ⟨(some 7), .p .lenSl, [.tmp 6], none⟩,
    ⟨(some 8), .p .move, [.tmp 1], none⟩,
    ⟨(some 9), .p .lenSl, [.tmp 8], none⟩,
    ⟨(some 10), .p (.bin .neq), [.tmp 7, .tmp 9], none⟩])
  (.cond (.tmp 10) (.seq (.reg [⟨(some 4), .p .move, [.lit (.bool false)], none⟩])
  .ret)
  .skip))
  (.seq (.seq (.reg [⟨(some 5), .p .move, [.lit (.int .i64 0)], none⟩])
  (.block 0 (.loop [0, 1, 5] (.seq (.seq (.reg [⟨(some 11), .p .move, [.tmp 5], none⟩,
    ⟨(some 12), .p .move, [.tmp 0], none⟩,
    ⟨(some 13), .p .lenSl, [.tmp 12], none⟩,
    ⟨(some 14), .p (.bin .lss), [.tmp 11, .tmp 13], none⟩])
  (.cond (.tmp 14) .skip
  (.exit 0)))
  (.seq (.block 1 (.seq (.dreg [⟨[⟨(some 17), .p .move, [.tmp 0], none⟩,
    ⟨(some 18), .p .move, [.tmp 5], none⟩,
    ⟨(some 19), .p (.indexAddr 15), [.tmp 17, .tmp 18], none⟩,
    ⟨(some 20), .r (.load (some 15)), [.tmp 19], none⟩,
    ⟨(some 21), .p .move, [.tmp 1], none⟩,
    ⟨(some 22), .p .move, [.tmp 5], none⟩,
    ⟨(some 23), .p (.indexAddr 15), [.tmp 21, .tmp 22], none⟩,
    ⟨(some 24), .r (.load (some 15)), [.tmp 23], none⟩], [], some ⟨(some 25), .h (.call 78), [.tmp 20, .tmp 24], none⟩⟩,
   ⟨[⟨(some 26), .p .not, [.tmp 25], none⟩], [], none⟩])
  (.cond (.tmp 26) (.seq (.reg [⟨(some 4), .p .move, [.lit (.bool false)], none⟩])
  .ret)
  .skip)))
  (.reg [⟨(some 15), .p .move, [.tmp 5], none⟩,
    ⟨(some 16), .p (.bin .add), [.tmp 15, .lit (.int .i64 1)], none⟩,
    ⟨(some 5), .p .move, [.tmp 16], none⟩]))))))
  (.seq (.reg [⟨(some 4), .p .move, [.lit (.bool true)], none⟩])
  .ret)))), [.tmp 4]⟩
theorem c70 : cFunc Go.Proofs.Try.prog false 2 Go.Proofs.Try.f70 = some sf70 := by kernel_rfl

/-- rosary/rosarybook.markEvents -/
def sf71 : SFunc := ⟨3, 27, (.seq (.reg [⟨(some 6), .p .move, [.lit .nilslice], none⟩])
  (.seq (.reg [⟨(some 7), .p .move, [.lit .nilslice], none⟩])
  (.seq (.seq (.reg [⟨(some 9), .p .move, [.tmp 1], none⟩,
    ⟨(some 8), .p .move, [.tmp 9], none⟩])
  (.block 0 (.loop [0, 1, 2, 7, 8] (.seq (.seq (.reg [⟨(some 10), .p .move, [.tmp 8], none⟩,
    ⟨(some 11), .p .move, [.tmp 1], none⟩,
    ⟨(some 12), .p .move, [.tmp 2], none⟩,
    ⟨(some 13), .p (.bin .add), [.tmp 11, .tmp 12], none⟩,
    ⟨(some 14), .p (.bin .lss), [.tmp 10, .tmp 13], none⟩])
  (.cond (.tmp 14) .skip
  (.exit 0)))
  (.seq (.block 1 (.reg [⟨(some 17), .p .move, [.tmp 7], none⟩,
    ⟨(some 18), .p .move, [.tmp 0], none⟩,
    ⟨(some 19), .p (.bin .mul), [.lit (.int .i64 (-1000)), .tmp 18], none⟩,
    ⟨(some 20), .p .move, [.tmp 8], none⟩,
    ⟨(some 21), .p (.bin .sub), [.tmp 19, .tmp 20], none⟩,
    ⟨(some 22), .p (.bin .sub), [.tmp 21, .lit (.int .i64 1)], none⟩,
    ⟨(some 23), .p (.build [(.int .i64 0), (.int .i64 0), (.int .i64 0), (.int .i64 0), (.int .i64 0), (.str []), (.str []), (.str []), (.int .i64 0), (.int .i64 0), (.str []), .nilslice, (.bool false), (.str []), (.int .i64 0)] [(0, 1)]), [.tmp 22], none⟩,
    ⟨(some 24), .a (.buildSlice 15 1 [(.int .i64 0), (.int .i64 0), (.int .i64 0), (.int .i64 0), (.int .i64 0), (.str []), (.str []), (.str []), (.int .i64 0), (.int .i64 0), (.str []), .nilslice, (.bool false), (.str []), (.int .i64 0)] [0]), [.tmp 23], none⟩,
    ⟨(some 25), .h (.append 15 false), [.tmp 17, .tmp 24], none⟩,
    ⟨(some 7), .p .move, [.tmp 25], none⟩]))
  (.reg [⟨(some 15), .p .move, [.tmp 8], none⟩,
    ⟨(some 16), .p (.bin .add), [.tmp 15, .lit (.int .i64 1)], none⟩,
    ⟨(some 8), .p .move, [.tmp 16], none⟩]))))))
  (.seq (.reg [⟨(some 26), .p .move, [.tmp 7], none⟩,
    ⟨(some 6), .p .move, [.tmp 26], none⟩])
  .ret)))), [.tmp 6]⟩
theorem c71 : cFunc Go.Proofs.Try.prog false 3 Go.Proofs.Try.f71 = some sf71 := by kernel_rfl

/-- rosary/rosarybook.markLetters -/
def sf72 : SFunc := ⟨3, 27, (.seq (.reg [⟨(some 6), .p .move, [.lit .nilslice], none⟩])
  (.seq (.reg [⟨(some 7), .p .move, [.lit .nilslice], none⟩])
  (.seq (.seq (.reg [⟨(some 9), .p .move, [.tmp 1], none⟩,
    ⟨(some 8), .p .move, [.tmp 9], none⟩])
  (.block 0 (.loop [0, 1, 2, 7, 8] (.seq (.seq (.reg [⟨(some 10), .p .move, [.tmp 8], none⟩,
    ⟨(some 11), .p .move, [.tmp 1], none⟩,
    ⟨(some 12), .p .move, [.tmp 2], none⟩,
    ⟨(some 13), .p (.bin .add), [.tmp 11, .tmp 12], none⟩,
    ⟨(some 14), .p (.bin .lss), [.tmp 10, .tmp 13], none⟩])
  (.cond (.tmp 14) .skip
  (.exit 0)))
  (.seq (.block 1 (.reg [⟨(some 17), .p .move, [.tmp 7], none⟩,
    ⟨(some 18), .p .move, [.tmp 0], none⟩,
    ⟨(some 19), .p (.bin .mul), [.lit (.int .i64 (-1000)), .tmp 18], none⟩,
    ⟨(some 20), .p .move, [.tmp 8], none⟩,
    ⟨(some 21), .p (.bin .sub), [.tmp 19, .tmp 20], none⟩,
    ⟨(some 22), .p (.bin .sub), [.tmp 21, .lit (.int .i64 1)], none⟩,
    ⟨(some 23), .p (.build [(.int .i64 0), (.int .i64 0), (.int .i64 0), (.int .i64 0), (.int .i64 0), (.str []), (.str []), (.str []), (.int .i64 0), (.int .i64 0), (.str []), .nilslice, (.bool false), (.str []), (.int .i64 0), (.int .u64 0), (.int .u64 0), (.int .i64 0), .nilslice, (.int .i64 0), (.int .i64 0)] [(0, 1)]), [.tmp 22], none⟩,
    ⟨(some 24), .a (.buildSlice 21 1 [(.int .i64 0), (.int .i64 0), (.int .i64 0), (.int .i64 0), (.int .i64 0), (.str []), (.str []), (.str []), (.int .i64 0), (.int .i64 0), (.str []), .nilslice, (.bool false), (.str []), (.int .i64 0), (.int .u64 0), (.int .u64 0), (.int .i64 0), .nilslice, (.int .i64 0), (.int .i64 0)] [0]), [.tmp 23], none⟩,
    ⟨(some 25), .h (.append 21 false), [.tmp 17, .tmp 24], none⟩,
    ⟨(some 7), .p .move, [.tmp 25], none⟩]))
  (.reg [⟨(some 15), .p .move, [.tmp 8], none⟩,
    ⟨(some 16), .p (.bin .add), [.tmp 15, .lit (.int .i64 1)], none⟩,
    ⟨(some 8), .p .move, [.tmp 16], none⟩]))))))
  (.seq (.reg [⟨(some 26), .p .move, [.tmp 7], none⟩,
    ⟨(some 6), .p .move, [.tmp 26], none⟩])
  .ret)))), [.tmp 6]⟩
theorem c72 : cFunc Go.Proofs.Try.prog false 3 Go.Proofs.Try.f72 = some sf72 := by kernel_rfl

/-- rosary/rosarybook.markTexts -/
def sf73 : SFunc := ⟨3, 24, (.seq (.reg [⟨(some 6), .p .move, [.lit .nilslice], none⟩])
  (.seq (.reg [⟨(some 7), .p .move, [.lit .nilslice], none⟩])
  (.seq (.seq (.reg [⟨(some 9), .p .move, [.tmp 1], none⟩,
    ⟨(some 8), .p .move, [.tmp 9], none⟩])
  (.block 0 (.loop [0, 1, 2, 7, 8] (.seq (.seq (.reg [⟨(some 10), .p .move, [.tmp 8], none⟩,
    ⟨(some 11), .p .move, [.tmp 1], none⟩,
    ⟨(some 12), .p .move, [.tmp 2], none⟩,
    ⟨(some 13), .p (.bin .add), [.tmp 11, .tmp 12], none⟩,
    ⟨(some 14), .p (.bin .lss), [.tmp 10, .tmp 13], none⟩])
  (.cond (.tmp 14) .skip
  (.exit 0)))
  (.seq (.block 1 (.reg [⟨(some 17), .p .move, [.tmp 7], none⟩,
    ⟨(some 18), .p .move, [.tmp 0], none⟩,
    ⟨(some 19), .p .move, [.tmp 8], none⟩,
    ⟨(some 20), .h (.call 79), [.tmp 18, .tmp 19], none⟩,
    ⟨(some 21), .a (.buildSlice 1 1 [(.str [])] [0]), [.tmp 20], none⟩,
    ⟨(some 22), .h (.append 1 false), [.tmp 17, .tmp 21], none⟩,
    ⟨(some 7), .p .move, [.tmp 22], none⟩]))
  (.reg [⟨(some 15), .p .move, [.tmp 8], none⟩,
    ⟨(some 16), .p (.bin .add), [.tmp 15, .lit (.int .i64 1)], none⟩,
    ⟨(some 8), .p .move, [.tmp 16], none⟩]))))))
  (.seq (.reg [⟨(some 23), .p .move, [.tmp 7], none⟩,
    ⟨(some 6), .p .move, [.tmp 23], none⟩])
  .ret)))), [.tmp 6]⟩
theorem c73 : cFunc Go.Proofs.Try.prog false 3 Go.Proofs.Try.f73 = some sf73 := by kernel_rfl

/-- rosary/rosarybook.markInts -/
def sf74 : SFunc := ⟨3, 26, (.seq (.reg [⟨(some 6), .p .move, [.lit .nilslice], none⟩])
  (.seq (.reg [⟨(some 7), .p .move, [.lit .nilslice], none⟩])
  (.seq (.seq (.reg [⟨(some 9), .p .move, [.tmp 1], none⟩,
    ⟨(some 8), .p .move, [.tmp 9], none⟩])
  (.block 0 (.loop [0, 1, 2, 7, 8] (.seq (.seq (.reg [⟨(some 10), .p .move, [.tmp 8], none⟩,
    ⟨(some 11), .p .move, [.tmp 1], none⟩,
    ⟨(some 12), .p .move, [.tmp 2], none⟩,
    ⟨(some 13), .p (.bin .add), [.tmp 11, .tmp 12], none⟩,
    ⟨(some 14), .p (.bin .lss), [.tmp 10, .tmp 13], none⟩])
  (.cond (.tmp 14) .skip
  (.exit 0)))
  (.seq (.block 1 (.reg [⟨(some 17), .p .move, [.tmp 7], none⟩,
    ⟨(some 18), .p .move, [.tmp 0], none⟩,
    ⟨(some 19), .p (.bin .mul), [.lit (.int .i64 (-1000000)), .tmp 18], none⟩,
    ⟨(some 20), .p .move, [.tmp 8], none⟩,
    ⟨(some 21), .p (.bin .sub), [.tmp 19, .tmp 20], none⟩,
    ⟨(some 22), .p (.bin .sub), [.tmp 21, .lit (.int .i64 7)], none⟩,
    ⟨(some 23), .a (.buildSlice 1 1 [(.int .i64 0)] [0]), [.tmp 22], none⟩,
    ⟨(some 24), .h (.append 1 false), [.tmp 17, .tmp 23], none⟩,
    ⟨(some 7), .p .move, [.tmp 24], none⟩]))
  (.reg [⟨(some 15), .p .move, [.tmp 8], none⟩,
    ⟨(some 16), .p (.bin .add), [.tmp 15, .lit (.int .i64 1)], none⟩,
    ⟨(some 8), .p .move, [.tmp 16], none⟩]))))))
  (.seq (.reg [⟨(some 25), .p .move, [.tmp 7], none⟩,
    ⟨(some 6), .p .move, [.tmp 25], none⟩])
  .ret)))), [.tmp 6]⟩
theorem c74 : cFunc Go.Proofs.Try.prog false 3 Go.Proofs.Try.f74 = some sf74 := by kernel_rfl

/-- rosary/rosarybook.markPoints -/
def sf75 : SFunc := ⟨3, 27, (.seq (.reg [⟨(some 6), .p .move, [.lit .nilslice], none⟩])
  (.seq (.reg [⟨(some 7), .p .move, [.lit .nilslice], none⟩])
  (.seq (.seq (.reg [⟨(some 9), .p .move, [.tmp 1], none⟩,
    ⟨(some 8), .p .move, [.tmp 9], none⟩])
  (.block 0 (.loop [0, 1, 2, 7, 8] (.seq (.seq (.reg [⟨(some 10), .p .move, [.tmp 8], none⟩,
    ⟨(some 11), .p .move, [.tmp 1], none⟩,
    ⟨(some 12), .p .move, [.tmp 2], none⟩,
    ⟨(some 13), .p (.bin .add), [.tmp 11, .tmp 12], none⟩,
    ⟨(some 14), .p (.bin .lss), [.tmp 10, .tmp 13], none⟩])
  (.cond (.tmp 14) .skip
  (.exit 0)))
  (.seq (.block 1 (.reg [⟨(some 17), .p .move, [.tmp 7], none⟩,
    ⟨(some 18), .p .move, [.tmp 0], none⟩,
    ⟨(some 19), .p (.bin .mul), [.lit (.int .i64 1000000), .tmp 18], none⟩,
    ⟨(some 20), .p .move, [.tmp 8], none⟩,
    ⟨(some 21), .p (.bin .add), [.tmp 19, .tmp 20], none⟩,
    ⟨(some 22), .p (.bin .add), [.tmp 21, .lit (.int .i64 7)], none⟩,
    ⟨(some 23), .p (.convInt .u64), [.tmp 22], none⟩,
    ⟨(some 24), .a (.buildSlice 1 1 [(.int .u64 0)] [0]), [.tmp 23], none⟩,
    ⟨(some 25), .h (.append 1 false), [.tmp 17, .tmp 24], none⟩,
    ⟨(some 7), .p .move, [.tmp 25], none⟩]))
  (.reg [⟨(some 15), .p .move, [.tmp 8], none⟩,
    ⟨(some 16), .p (.bin .add), [.tmp 15, .lit (.int .i64 1)], none⟩,
    ⟨(some 8), .p .move, [.tmp 16], none⟩]))))))
  (.seq (.reg [⟨(some 26), .p .move, [.tmp 7], none⟩,
    ⟨(some 6), .p .move, [.tmp 26], none⟩])
  .ret)))), [.tmp 6]⟩
theorem c75 : cFunc Go.Proofs.Try.prog false 3 Go.Proofs.Try.f75 = some sf75 := by kernel_rfl

/-- rosary/rosarybook.markItems -/
def sf76 : SFunc := ⟨3, 25, (.seq (.reg [⟨(some 6), .p .move, [.lit .nilslice], none⟩])
  (.seq (.reg [⟨(some 7), .p .move, [.lit .nilslice], none⟩])
  (.seq (.seq (.reg [⟨(some 9), .p .move, [.tmp 1], none⟩,
    ⟨(some 8), .p .move, [.tmp 9], none⟩])
  (.block 0 (.loop [0, 1, 2, 7, 8] (.seq (.seq (.reg [⟨(some 10), .p .move, [.tmp 8], none⟩,
    ⟨(some 11), .p .move, [.tmp 1], none⟩,
    ⟨(some 12), .p .move, [.tmp 2], none⟩,
    ⟨(some 13), .p (.bin .add), [.tmp 11, .tmp 12], none⟩,
    ⟨(some 14), .p (.bin .lss), [.tmp 10, .tmp 13], none⟩])
  (.cond (.tmp 14) .skip
  (.exit 0)))
  (.seq (.block 1 (.reg [⟨(some 17), .p .move, [.tmp 7], none⟩,
    ⟨(some 18), .p .move, [.tmp 0], none⟩,
    ⟨(some 19), .p .move, [.tmp 8], none⟩,
    ⟨(some 20), .h (.call 79), [.tmp 18, .tmp 19], none⟩,
    ⟨(some 21), .p (.build [(.str []), (.str [])] [(0, 1)]), [.tmp 20], none⟩,
    ⟨(some 22), .a (.buildSlice 2 1 [(.str []), (.str [])] [0]), [.tmp 21], none⟩,
    ⟨(some 23), .h (.append 2 false), [.tmp 17, .tmp 22], none⟩,
    ⟨(some 7), .p .move, [.tmp 23], none⟩]))
  (.reg [⟨(some 15), .p .move, [.tmp 8], none⟩,
    ⟨(some 16), .p (.bin .add), [.tmp 15, .lit (.int .i64 1)], none⟩,
    ⟨(some 8), .p .move, [.tmp 16], none⟩]))))))
  (.seq (.reg [⟨(some 24), .p .move, [.tmp 7], none⟩,
    ⟨(some 6), .p .move, [.tmp 24], none⟩])
  .ret)))), [.tmp 6]⟩
theorem c76 : cFunc Go.Proofs.Try.prog false 3 Go.Proofs.Try.f76 = some sf76 := by kernel_rfl

/-- rosary/rosarybook.markOwneds -/
def sf77 : SFunc := ⟨3, 27, (.seq (.reg [⟨(some 6), .p .move, [.lit .nilslice], none⟩])
  (.seq (.reg [⟨(some 7), .p .move, [.lit .nilslice], none⟩])
  (.seq (.seq (.reg [⟨(some 9), .p .move, [.tmp 1], none⟩,
    ⟨(some 8), .p .move, [.tmp 9], none⟩])
  (.block 0 (.loop [0, 1, 2, 7, 8] (.seq (.seq (.reg [⟨(some 10), .p .move, [.tmp 8], none⟩,
    ⟨(some 11), .p .move, [.tmp 1], none⟩,
    ⟨(some 12), .p .move, [.tmp 2], none⟩,
    ⟨(some 13), .p (.bin .add), [.tmp 11, .tmp 12], none⟩,
    ⟨(some 14), .p (.bin .lss), [.tmp 10, .tmp 13], none⟩])
  (.cond (.tmp 14) .skip
  (.exit 0)))
  (.seq (.block 1 (.reg [⟨(some 17), .p .move, [.tmp 7], none⟩,
    ⟨(some 18), .p .move, [.tmp 0], none⟩,
    ⟨(some 19), .p (.bin .mul), [.lit (.int .i64 (-1000)), .tmp 18], none⟩,
    ⟨(some 20), .p .move, [.tmp 8], none⟩,
    ⟨(some 21), .p (.bin .sub), [.tmp 19, .tmp 20], none⟩,
    ⟨(some 22), .p (.bin .sub), [.tmp 21, .lit (.int .i64 1)], none⟩,
    ⟨(some 23), .p (.build [(.int .u64 0), (.int .u64 0), (.int .i64 0), (.int .i64 0)] [(2, 1)]), [.tmp 22], none⟩,
    ⟨(some 24), .a (.buildSlice 4 1 [(.int .u64 0), (.int .u64 0), (.int .i64 0), (.int .i64 0)] [0]), [.tmp 23], none⟩,
    ⟨(some 25), .h (.append 4 false), [.tmp 17, .tmp 24], none⟩,
    ⟨(some 7), .p .move, [.tmp 25], none⟩]))
  (.reg [⟨(some 15), .p .move, [.tmp 8], none⟩,
    ⟨(some 16), .p (.bin .add), [.tmp 15, .lit (.int .i64 1)], none⟩,
    ⟨(some 8), .p .move, [.tmp 16], none⟩]))))))
  (.seq (.reg [⟨(some 26), .p .move, [.tmp 7], none⟩,
    ⟨(some 6), .p .move, [.tmp 26], none⟩])
  .ret)))), [.tmp 6]⟩
theorem c77 : cFunc Go.Proofs.Try.prog false 3 Go.Proofs.Try.f77 = some sf77 := by kernel_rfl

/-- rosary/rosarybook.SameEvent -/
def sf78 : SFunc := ⟨2, 45, (.seq (.reg [⟨(some 2), .a .box, [.tmp 0], none⟩,
    ⟨(some 3), .a .box, [.tmp 1], none⟩,
    ⟨(some 4), .p .move, [.lit (.bool false)], none⟩])
  (.seq (.reg [⟨(some 5), .p (.fieldAddr 0), [.tmp 2], none⟩,
    ⟨(some 6), .r (.load none), [.tmp 5], none⟩,
    ⟨(some 7), .p (.fieldAddr 0), [.tmp 3], none⟩,
    ⟨(some 8), .r (.load none), [.tmp 7], none⟩,
    ⟨(some 9), .p (.bin .eql), [.tmp 6, .tmp 8], none⟩,
    ⟨(some 10), .p .move, [.tmp 9], none⟩,
    ⟨(some 11), .p (.fieldAddr 1), [.tmp 2], some (10, true)⟩,
    ⟨(some 12), .r (.load none), [.tmp 11], some (10, true)⟩,
    ⟨(some 13), .p (.fieldAddr 1), [.tmp 3], some (10, true)⟩,
    ⟨(some 14), .r (.load none), [.tmp 13], some (10, true)⟩,
    ⟨(some 15), .p (.bin .eql), [.tmp 12, .tmp 14], some (10, true)⟩,
    ⟨(some 16), .p .pick, [.tmp 10, .tmp 15, .lit (.bool false)], none⟩,
    ⟨(some 17), .p .move, [.tmp 16], none⟩,
    ⟨(some 18), .p (.fieldAddr 2), [.tmp 2], some (17, true)⟩,
    ⟨(some 19), .r (.load none), [.tmp 18], some (17, true)⟩,
    ⟨(some 20), .p (.fieldAddr 2), [.tmp 3], some (17, true)⟩,
    ⟨(some 21), .r (.load none), [.tmp 20], some (17, true)⟩,
    ⟨(some 22), .p (.bin .eql), [.tmp 19, .tmp 21], some (17, true)⟩,
    ⟨(some 23), .p .pick, [.tmp 17, .tmp 22, .lit (.bool false)], none⟩,
    ⟨(some 24), .p .move, [.tmp 23], none⟩,
    ⟨(some 25), .p (.fieldAddr 3), [.tmp 2], some (24, true)⟩,
    ⟨(some 26), .r (.load none), [.tmp 25], some (24, true)⟩,
    ⟨(some 27), .p (.fieldAddr 3), [.tmp 3], some (24, true)⟩,
    ⟨(some 28), .r (.load none), [.tmp 27], some (24, true)⟩,
    ⟨(some 29), .p (.bin .eql), [.tmp 26, .tmp 28], some (24, true)⟩,
    ⟨(some 30), .p .pick, [.tmp 24, .tmp 29, .lit (.bool false)], none⟩,
    ⟨(some 31), .p .move, [.tmp 30], none⟩,
    ⟨(some 32), .p (.fieldAddr 4), [.tmp 2], some (31, true)⟩,
    ⟨(some 33), .r (.load (some 5)), [.tmp 32], some (31, true)⟩,
    ⟨(some 34), .p (.fieldAddr 4), [.tmp 3], some (31, true)⟩,
    ⟨(some 35), .r (.load (some 5)), [.tmp 34], some (31, true)⟩,
    ⟨(some 36), .p (.eq false (.agg [.int, .str, .str, .str, .int])), [.tmp 33, .tmp 35], some (31, true)⟩,
    ⟨(some 37), .p .pick, [.tmp 31, .tmp 36, .lit (.bool false)], none⟩,
    ⟨(some 38), .p .move, [.tmp 37], none⟩,
    ⟨(some 39), .p (.fieldAddr 9), [.tmp 2], some (38, true)⟩,
    ⟨(some 40), .r (.load (some 6)), [.tmp 39], some (38, true)⟩,
    ⟨(some 41), .p (.fieldAddr 9), [.tmp 3], some (38, true)⟩,
    ⟨(some 42), .r (.load (some 6)), [.tmp 41], some (38, true)⟩,
    ⟨(some 43), .h (.call 63), [.tmp 40, .tmp 42], some (38, true)⟩,
    ⟨(some 44), .p .pick, [.tmp 38, .tmp 43, .lit (.bool false)], none⟩,
    ⟨(some 4), .p .move, [.tmp 44], none⟩])
  .ret)), [.tmp 4]⟩
theorem c78 : cFunc Go.Proofs.Try.prog false 2 Go.Proofs.Try.f78 = some sf78 := by kernel_rfl

/-- rosary/rosarybook.name -/
def sf79 : SFunc := ⟨2, 30, (.seq (.reg [⟨(some 4), .p .move, [.lit (.str [])], none⟩])
  (.seq (.reg [⟨(some 5), .p .move, [.tmp 0], none⟩,
    ⟨(some 6), .p (.bin .rem), [.tmp 5, .lit (.int .i64 26)], none⟩,
    ⟨(some 7), .p (.bin .add), [.lit (.int .i64 65), .tmp 6], none⟩,
    ⟨(some 8), .p (.convInt .u8), [.tmp 7], none⟩,
    ⟨(some 9), .p .move, [.tmp 0], none⟩,
    ⟨(some 10), .p (.bin .quo), [.tmp 9, .lit (.int .i64 26)], none⟩,
    ⟨(some 11), .p (.bin .rem), [.tmp 10, .lit (.int .i64 26)], none⟩,
    ⟨(some 12), .p (.bin .add), [.lit (.int .i64 65), .tmp 11], none⟩,
    ⟨(some 13), .p (.convInt .u8), [.tmp 12], none⟩,
    ⟨(some 14), .p .move, [.tmp 1], none⟩,
    ⟨(some 15), .p (.bin .rem), [.tmp 14, .lit (.int .i64 10)], none⟩,
    ⟨(some 16), .p (.bin .add), [.lit (.int .i64 48), .tmp 15], none⟩,
    ⟨(some 17), .p (.convInt .u8), [.tmp 16], none⟩,
    ⟨(some 18), .p .move, [.tmp 1], none⟩,
    ⟨(some 19), .p (.bin .quo), [.tmp 18, .lit (.int .i64 10)], none⟩,
    ⟨(some 20), .p (.bin .rem), [.tmp 19, .lit (.int .i64 10)], none⟩,
    ⟨(some 21), .p (.bin .add), [.lit (.int .i64 48), .tmp 20], none⟩,
    ⟨(some 22), .p (.convInt .u8), [.tmp 21], none⟩,
    ⟨(some 23), .p .move, [.tmp 1], none⟩,
    ⟨(some 24), .p (.bin .quo), [.tmp 23, .lit (.int .i64 100)], none⟩,
    ⟨(some 25), .p (.bin .rem), [.tmp 24, .lit (.int .i64 10)], none⟩,
    ⟨(some 26), .p (.bin .add), [.lit (.int .i64 48), .tmp 25], none⟩,
    ⟨(some 27), .p (.convInt .u8), [.tmp 26], none⟩,
    ⟨(some 28), .a (.buildSlice 1 6 [(.int .u8 0)] [0, 1, 2, 3, 4, 5]), [.lit (.int .u8 109), .tmp 8, .tmp 13, .tmp 17, .tmp 22, .tmp 27], none⟩,
    ⟨(some 29), .r .toStr, [.tmp 28], none⟩,
    ⟨(some 4), .p .move, [.tmp 29], none⟩])
  .ret)), [.tmp 4]⟩
theorem c79 : cFunc Go.Proofs.Try.prog false 2 Go.Proofs.Try.f79 = some sf79 := by kernel_rfl

def fs : FuncId → Option SFunc
  | 3 => some sf3
  | 4 => some sf4
  | 5 => some sf5
  | 6 => some sf6
  | 7 => some sf7
  | 8 => some sf8
  | 9 => some sf9
  | 10 => some sf10
  | 11 => some sf11
  | 12 => some sf12
  | 13 => some sf13
  | 14 => some sf14
  | 15 => some sf15
  | 16 => some sf16
  | 17 => some sf17
  | 18 => some sf18
  | 19 => some sf19
  | 20 => some sf20
  | 21 => some sf21
  | 22 => some sf22
  | 23 => some sf23
  | 24 => some sf24
  | 25 => some sf25
  | 26 => some sf26
  | 27 => some sf27
  | 28 => some sf28
  | 29 => some sf29
  | 30 => some sf30
  | 31 => some sf31
  | 32 => some sf32
  | 33 => some sf33
  | 34 => some sf34
  | 35 => some sf35
  | 36 => some sf36
  | 37 => some sf37
  | 38 => some sf38
  | 39 => some sf39
  | 40 => some sf40
  | 41 => some sf41
  | 42 => some sf42
  | 43 => some sf43
  | 44 => some sf44
  | 45 => some sf45
  | 46 => some sf46
  | 47 => some sf47
  | 48 => some sf48
  | 49 => some sf49
  | 50 => some sf50
  | 51 => some sf51
  | 52 => some sf52
  | 53 => some sf53
  | 54 => some sf54
  | 55 => some sf55
  | 56 => some sf56
  | 57 => some sf57
  | 58 => some sf58
  | 59 => some sf59
  | 60 => some sf60
  | 61 => some sf61
  | 62 => some sf62
  | 63 => some sf63
  | 64 => some sf64
  | 65 => some sf65
  | 66 => some sf66
  | 67 => some sf67
  | 68 => some sf68
  | 69 => some sf69
  | 70 => some sf70
  | 71 => some sf71
  | 72 => some sf72
  | 73 => some sf73
  | 74 => some sf74
  | 75 => some sf75
  | 76 => some sf76
  | 77 => some sf77
  | 78 => some sf78
  | 79 => some sf79
  | _ => none
theorem fsOk : FsOk Go.Proofs.Try.prog fs := by
  intro f sf h
  unfold fs at h
  split at h
  · cases h; exact ⟨Go.Proofs.Try.f3, _, _, Go.Proofs.Try.func3, c3⟩
  · cases h; exact ⟨Go.Proofs.Try.f4, _, _, Go.Proofs.Try.func4, c4⟩
  · cases h; exact ⟨Go.Proofs.Try.f5, _, _, Go.Proofs.Try.func5, c5⟩
  · cases h; exact ⟨Go.Proofs.Try.f6, _, _, Go.Proofs.Try.func6, c6⟩
  · cases h; exact ⟨Go.Proofs.Try.f7, _, _, Go.Proofs.Try.func7, c7⟩
  · cases h; exact ⟨Go.Proofs.Try.f8, _, _, Go.Proofs.Try.func8, c8⟩
  · cases h; exact ⟨Go.Proofs.Try.f9, _, _, Go.Proofs.Try.func9, c9⟩
  · cases h; exact ⟨Go.Proofs.Try.f10, _, _, Go.Proofs.Try.func10, c10⟩
  · cases h; exact ⟨Go.Proofs.Try.f11, _, _, Go.Proofs.Try.func11, c11⟩
  · cases h; exact ⟨Go.Proofs.Try.f12, _, _, Go.Proofs.Try.func12, c12⟩
  · cases h; exact ⟨Go.Proofs.Try.f13, _, _, Go.Proofs.Try.func13, c13⟩
  · cases h; exact ⟨Go.Proofs.Try.f14, _, _, Go.Proofs.Try.func14, c14⟩
  · cases h; exact ⟨Go.Proofs.Try.f15, _, _, Go.Proofs.Try.func15, c15⟩
  · cases h; exact ⟨Go.Proofs.Try.f16, _, _, Go.Proofs.Try.func16, c16⟩
  · cases h; exact ⟨Go.Proofs.Try.f17, _, _, Go.Proofs.Try.func17, c17⟩
  · cases h; exact ⟨Go.Proofs.Try.f18, _, _, Go.Proofs.Try.func18, c18⟩
  · cases h; exact ⟨Go.Proofs.Try.f19, _, _, Go.Proofs.Try.func19, c19⟩
  · cases h; exact ⟨Go.Proofs.Try.f20, _, _, Go.Proofs.Try.func20, c20⟩
  · cases h; exact ⟨Go.Proofs.Try.f21, _, _, Go.Proofs.Try.func21, c21⟩
  · cases h; exact ⟨Go.Proofs.Try.f22, _, _, Go.Proofs.Try.func22, c22⟩
  · cases h; exact ⟨Go.Proofs.Try.f23, _, _, Go.Proofs.Try.func23, c23⟩
  · cases h; exact ⟨Go.Proofs.Try.f24, _, _, Go.Proofs.Try.func24, c24⟩
  · cases h; exact ⟨Go.Proofs.Try.f25, _, _, Go.Proofs.Try.func25, c25⟩
  · cases h; exact ⟨Go.Proofs.Try.f26, _, _, Go.Proofs.Try.func26, c26⟩
  · cases h; exact ⟨Go.Proofs.Try.f27, _, _, Go.Proofs.Try.func27, c27⟩
  · cases h; exact ⟨Go.Proofs.Try.f28, _, _, Go.Proofs.Try.func28, c28⟩
  · cases h; exact ⟨Go.Proofs.Try.f29, _, _, Go.Proofs.Try.func29, c29⟩
  · cases h; exact ⟨Go.Proofs.Try.f30, _, _, Go.Proofs.Try.func30, c30⟩
  · cases h; exact ⟨Go.Proofs.Try.f31, _, _, Go.Proofs.Try.func31, c31⟩
  · cases h; exact ⟨Go.Proofs.Try.f32, _, _, Go.Proofs.Try.func32, c32⟩
  · cases h; exact ⟨Go.Proofs.Try.f33, _, _, Go.Proofs.Try.func33, c33⟩
  · cases h; exact ⟨Go.Proofs.Try.f34, _, _, Go.Proofs.Try.func34, c34⟩
  · cases h; exact ⟨Go.Proofs.Try.f35, _, _, Go.Proofs.Try.func35, c35⟩
  · cases h; exact ⟨Go.Proofs.Try.f36, _, _, Go.Proofs.Try.func36, c36⟩
  · cases h; exact ⟨Go.Proofs.Try.f37, _, _, Go.Proofs.Try.func37, c37⟩
  · cases h; exact ⟨Go.Proofs.Try.f38, _, _, Go.Proofs.Try.func38, c38⟩
  · cases h; exact ⟨Go.Proofs.Try.f39, _, _, Go.Proofs.Try.func39, c39⟩
  · cases h; exact ⟨Go.Proofs.Try.f40, _, _, Go.Proofs.Try.func40, c40⟩
  · cases h; exact ⟨Go.Proofs.Try.f41, _, _, Go.Proofs.Try.func41, c41⟩
  · cases h; exact ⟨Go.Proofs.Try.f42, _, _, Go.Proofs.Try.func42, c42⟩
  · cases h; exact ⟨Go.Proofs.Try.f43, _, _, Go.Proofs.Try.func43, c43⟩
  · cases h; exact ⟨Go.Proofs.Try.f44, _, _, Go.Proofs.Try.func44, c44⟩
  · cases h; exact ⟨Go.Proofs.Try.f45, _, _, Go.Proofs.Try.func45, c45⟩
  · cases h; exact ⟨Go.Proofs.Try.f46, _, _, Go.Proofs.Try.func46, c46⟩
  · cases h; exact ⟨Go.Proofs.Try.f47, _, _, Go.Proofs.Try.func47, c47⟩
  · cases h; exact ⟨Go.Proofs.Try.f48, _, _, Go.Proofs.Try.func48, c48⟩
  · cases h; exact ⟨Go.Proofs.Try.f49, _, _, Go.Proofs.Try.func49, c49⟩
  · cases h; exact ⟨Go.Proofs.Try.f50, _, _, Go.Proofs.Try.func50, c50⟩
  · cases h; exact ⟨Go.Proofs.Try.f51, _, _, Go.Proofs.Try.func51, c51⟩
  · cases h; exact ⟨Go.Proofs.Try.f52, _, _, Go.Proofs.Try.func52, c52⟩
  · cases h; exact ⟨Go.Proofs.Try.f53, _, _, Go.Proofs.Try.func53, c53⟩
  · cases h; exact ⟨Go.Proofs.Try.f54, _, _, Go.Proofs.Try.func54, c54⟩
  · cases h; exact ⟨Go.Proofs.Try.f55, _, _, Go.Proofs.Try.func55, c55⟩
  · cases h; exact ⟨Go.Proofs.Try.f56, _, _, Go.Proofs.Try.func56, c56⟩
  · cases h; exact ⟨Go.Proofs.Try.f57, _, _, Go.Proofs.Try.func57, c57⟩
  · cases h; exact ⟨Go.Proofs.Try.f58, _, _, Go.Proofs.Try.func58, c58⟩
  · cases h; exact ⟨Go.Proofs.Try.f59, _, _, Go.Proofs.Try.func59, c59⟩
  · cases h; exact ⟨Go.Proofs.Try.f60, _, _, Go.Proofs.Try.func60, c60⟩
  · cases h; exact ⟨Go.Proofs.Try.f61, _, _, Go.Proofs.Try.func61, c61⟩
  · cases h; exact ⟨Go.Proofs.Try.f62, _, _, Go.Proofs.Try.func62, c62⟩
  · cases h; exact ⟨Go.Proofs.Try.f63, _, _, Go.Proofs.Try.func63, c63⟩
  · cases h; exact ⟨Go.Proofs.Try.f64, _, _, Go.Proofs.Try.func64, c64⟩
  · cases h; exact ⟨Go.Proofs.Try.f65, _, _, Go.Proofs.Try.func65, c65⟩
  · cases h; exact ⟨Go.Proofs.Try.f66, _, _, Go.Proofs.Try.func66, c66⟩
  · cases h; exact ⟨Go.Proofs.Try.f67, _, _, Go.Proofs.Try.func67, c67⟩
  · cases h; exact ⟨Go.Proofs.Try.f68, _, _, Go.Proofs.Try.func68, c68⟩
  · cases h; exact ⟨Go.Proofs.Try.f69, _, _, Go.Proofs.Try.func69, c69⟩
  · cases h; exact ⟨Go.Proofs.Try.f70, _, _, Go.Proofs.Try.func70, c70⟩
  · cases h; exact ⟨Go.Proofs.Try.f71, _, _, Go.Proofs.Try.func71, c71⟩
  · cases h; exact ⟨Go.Proofs.Try.f72, _, _, Go.Proofs.Try.func72, c72⟩
  · cases h; exact ⟨Go.Proofs.Try.f73, _, _, Go.Proofs.Try.func73, c73⟩
  · cases h; exact ⟨Go.Proofs.Try.f74, _, _, Go.Proofs.Try.func74, c74⟩
  · cases h; exact ⟨Go.Proofs.Try.f75, _, _, Go.Proofs.Try.func75, c75⟩
  · cases h; exact ⟨Go.Proofs.Try.f76, _, _, Go.Proofs.Try.func76, c76⟩
  · cases h; exact ⟨Go.Proofs.Try.f77, _, _, Go.Proofs.Try.func77, c77⟩
  · cases h; exact ⟨Go.Proofs.Try.f78, _, _, Go.Proofs.Try.func78, c78⟩
  · cases h; exact ⟨Go.Proofs.Try.f79, _, _, Go.Proofs.Try.func79, c79⟩
  · cases h

end Go.Proofs.Ytmbkklobijflkaa.F
