/- The code of functions, as the evaluator has it; a table of them. No condition. -/
import Derived.Test.YtfcdghdipkgpfaaRows
import Derived.Test.YtfcdghdipkgpfaaShelf
import Derived.WalkKit
import Derived.Test.YtfcdghdipkgpfaaEvd8
import Derived.Test.YtfcdghdipkgpfaaKnown
namespace Go.Proofs.Ytfcdghdipkgpfaa
open Eva Go.RowKit
set_option maxRecDepth 100000
/- sprue/spruelaw2.TextLines -/
def cf8 : Eva.Fn := { ntmps := 84, res := [(.s 2)], body :=
 (.seq
 (.reg [⟨(some 2), (.mv (.c (.bool false))), none, none⟩])
 (.seqj [0]
 (.seq
 (.reg [⟨(some 13), (.call 9 []), none, none⟩,
  ⟨(some 14), (.not (.s 13)), none, none⟩])
 (.cond (.s 14)
 (.seq
 (.reg [⟨(some 2), (.mv (.c (.bool false))), none, none⟩])
 .ret)
 .skip))
 (.seq
 (.reg [⟨(some 3), (.mv (.c (ofL []))), none, none⟩])
 (.seq
 (.reg [⟨(some 4), (.mv (.c (.int .i64 (1)))), none, none⟩,
  ⟨(some 5), (.mv (.c (.int .i64 (1)))), none, none⟩])
 (.seqj [3, 4, 5]
 (.seq
 (.reg [⟨(some 6), (.mv (.c (.int .i64 (0)))), none, none⟩])
 (.block 0
 (.loop [0, 3, 4, 5, 6]
 (.seqj [0, 3, 4, 5, 6]
 (.seq
 (.reg [⟨(some 15), (.mv (.s 6)), none, none⟩,
  ⟨(some 16), (.mv (.s 0)), none, none⟩,
  ⟨(some 17), (.lenL (.s 16)), none, none⟩,
  ⟨(some 18), (.bin .lss (.s 15) (.s 17)), none, none⟩,
  ⟨(some 19), (.mv (.s 18)), none, none⟩,
  ⟨(some 20), (.mv (.s 6)), (some (19, true)), none⟩,
  ⟨(some 21), (.bin .lss (.s 20) (.c (.int .i64 (60)))), (some (19, true)), none⟩,
  ⟨(some 22), (.pick (.s 19) (.s 21) (.c (.bool false))), none, none⟩])
 (.cond (.s 22)
 .skip
 (.exit 0)))
 (.seqj [0, 3, 4, 5, 6]
 (.block 1
 (.seq
 (.reg [⟨(some 26), (.mv (.s 3)), none, none⟩,
  ⟨(some 27), (.bin .add (.s 26) (.c (ofL [116, 97, 105, 108]))), none, none⟩,
  ⟨(some 28), (.mv (.s 3)), none, none⟩,
  ⟨(some 29), (.lenS (.s 28)), none, none⟩,
  ⟨(some 30), (.call 14 [(.s 27), (.s 29)]), none, none⟩,
  ⟨(some 25), (.mv (.s 30)), none, none⟩,
  ⟨(some 31), (.ext 0 (.s 25)), none, none⟩,
  ⟨(some 32), (.ext 1 (.s 25)), none, none⟩,
  ⟨(some 7), (.mv (.s 31)), none, none⟩,
  ⟨(some 8), (.mv (.s 32)), none, none⟩])
 (.seqj [0, 3, 4, 5, 6]
 (.seq
 (.reg [⟨(some 33), (.mv (.s 7)), none, none⟩,
  ⟨(some 34), (.mv (.s 4)), none, none⟩,
  ⟨(some 35), (.eq (.one .i) true (.s 33) (.s 34)), none, none⟩,
  ⟨(some 36), (.mv (.s 35)), none, none⟩,
  ⟨(some 37), (.mv (.s 8)), (some (36, false)), none⟩,
  ⟨(some 38), (.mv (.s 5)), (some (36, false)), none⟩,
  ⟨(some 39), (.eq (.one .i) true (.s 37) (.s 38)), (some (36, false)), none⟩,
  ⟨(some 40), (.pick (.s 36) (.c (.bool true)) (.s 39)), none, none⟩])
 (.cond (.s 40)
 (.seq
 (.reg [⟨(some 2), (.mv (.c (.bool false))), none, none⟩])
 .ret)
 .skip))
 (.seq
 (.reg [⟨(some 41), (.mv (.s 0)), none, none⟩,
  ⟨(some 42), (.mv (.s 6)), none, none⟩,
  ⟨(some 43), (.iaddrS 1 (.s 41) (.s 42)), none, none⟩,
  ⟨(some 44), (.load1 (.s 43)), none, none⟩,
  ⟨(some 45), (.bin .rem (.s 44) (.c (.int .i64 (4)))), none, none⟩,
  ⟨(some 46), (.eq (.one .i) false (.s 45) (.c (.int .i64 (0)))), none, none⟩])
 (.cond (.s 46)
 (.reg [⟨(some 47), (.mv (.s 3)), none, none⟩,
  ⟨(some 48), (.bin .add (.s 47) (.c (ofL [10]))), none, none⟩,
  ⟨(some 49), (.mv (.s 4)), none, none⟩,
  ⟨(some 50), (.bin .add (.s 49) (.c (.int .i64 (1)))), none, none⟩,
  ⟨(some 3), (.mv (.s 48)), none, none⟩,
  ⟨(some 4), (.mv (.s 50)), none, none⟩,
  ⟨(some 5), (.mv (.c (.int .i64 (1)))), none, none⟩])
 (.reg [⟨(some 51), (.mv (.s 3)), none, none⟩,
  ⟨(some 52), (.bin .add (.s 51) (.c (ofL [120]))), none, none⟩,
  ⟨(some 53), (.mv (.s 5)), none, none⟩,
  ⟨(some 54), (.bin .add (.s 53) (.c (.int .i64 (1)))), none, none⟩,
  ⟨(some 3), (.mv (.s 52)), none, none⟩,
  ⟨(some 5), (.mv (.s 54)), none, none⟩]))))))
 (.reg [⟨(some 23), (.mv (.s 6)), none, none⟩,
  ⟨(some 24), (.bin .add (.s 23) (.c (.int .i64 (1)))), none, none⟩,
  ⟨(some 6), (.mv (.s 24)), none, none⟩]))))))
 (.seq
 (.reg [⟨(some 56), (.mv (.s 3)), none, none⟩,
  ⟨(some 57), (.mv (.s 3)), none, none⟩,
  ⟨(some 58), (.lenS (.s 57)), none, none⟩,
  ⟨(some 59), (.bin .add (.s 58) (.c (.int .i64 (7)))), none, none⟩,
  ⟨(some 60), (.call 14 [(.s 56), (.s 59)]), none, none⟩,
  ⟨(some 55), (.mv (.s 60)), none, none⟩,
  ⟨(some 61), (.ext 0 (.s 55)), none, none⟩,
  ⟨(some 62), (.ext 1 (.s 55)), none, none⟩,
  ⟨(some 9), (.mv (.s 61)), none, none⟩,
  ⟨(some 10), (.mv (.s 62)), none, none⟩])
 (.seq
 (.reg [⟨(some 64), (.mv (.s 3)), none, none⟩,
  ⟨(some 65), (.call 14 [(.s 64), (.c (.int .i64 (-7)))]), none, none⟩,
  ⟨(some 63), (.mv (.s 65)), none, none⟩,
  ⟨(some 66), (.ext 0 (.s 63)), none, none⟩,
  ⟨(some 67), (.ext 1 (.s 63)), none, none⟩,
  ⟨(some 11), (.mv (.s 66)), none, none⟩,
  ⟨(some 12), (.mv (.s 67)), none, none⟩])
 (.seq
 (.reg [⟨(some 68), (.mv (.s 9)), none, none⟩,
  ⟨(some 69), (.mv (.s 4)), none, none⟩,
  ⟨(some 70), (.eq (.one .i) false (.s 68) (.s 69)), none, none⟩,
  ⟨(some 71), (.mv (.s 70)), none, none⟩,
  ⟨(some 72), (.mv (.s 10)), (some (71, true)), none⟩,
  ⟨(some 73), (.mv (.s 5)), (some (71, true)), none⟩,
  ⟨(some 74), (.eq (.one .i) false (.s 72) (.s 73)), (some (71, true)), none⟩,
  ⟨(some 75), (.pick (.s 71) (.s 74) (.c (.bool false))), none, none⟩,
  ⟨(some 76), (.mv (.s 75)), none, none⟩,
  ⟨(some 77), (.mv (.s 11)), (some (76, true)), none⟩,
  ⟨(some 78), (.eq (.one .i) false (.s 77) (.c (.int .i64 (1)))), (some (76, true)), none⟩,
  ⟨(some 79), (.pick (.s 76) (.s 78) (.c (.bool false))), none, none⟩,
  ⟨(some 80), (.mv (.s 79)), none, none⟩,
  ⟨(some 81), (.mv (.s 12)), (some (80, true)), none⟩,
  ⟨(some 82), (.eq (.one .i) false (.s 81) (.c (.int .i64 (1)))), (some (80, true)), none⟩,
  ⟨(some 83), (.pick (.s 80) (.s 82) (.c (.bool false))), none, none⟩,
  ⟨(some 2), (.mv (.s 83)), none, none⟩])
 .ret)))))))) }
theorem cf8_ok : compFn Try.prog Try.f8 [[0], [3, 4, 5], [0, 3, 4, 5, 6], [0, 3, 4, 5, 6], [0, 3, 4, 5, 6], [0, 3, 4, 5, 6]] = some cf8 := by kernel_rfl
/- sprue/text.Split -/
def cf11 : Eva.Fn := { ntmps := 69, res := [(.s 2), (.s 3)], body :=
 (.seq
 (.reg [⟨(some 2), (.mv (.c .snil)), none, none⟩,
  ⟨(some 3), (.mv (.c (.int .i64 (0)))), none, none⟩])
 (.seqj [0]
 (.seq
 (.reg [⟨(some 7), (.mv (.s 0)), none, none⟩,
  ⟨(some 8), (.lenS (.s 7)), none, none⟩,
  ⟨(some 9), (.bin .gtr (.s 8) (.c (.int .i64 (1500)))), none, none⟩])
 (.cond (.s 9)
 (.seq
 (.reg [⟨(some 2), (.mv (.c .snil)), none, none⟩,
  ⟨(some 3), (.mv (.c (.int .i64 (4)))), none, none⟩])
 .ret)
 .skip))
 (.seq
 (.reg [⟨(some 4), (.mv (.c .snil)), none, none⟩])
 (.seqj [4]
 (.seq
 (.reg [⟨(some 5), (.mv (.c (.int .i64 (0)))), none, none⟩])
 (.block 0
 (.loop [0, 4, 5]
 (.seqj [0, 4, 5]
 (.seq
 (.reg [⟨(some 10), (.mv (.s 5)), none, none⟩,
  ⟨(some 11), (.mv (.s 0)), none, none⟩,
  ⟨(some 12), (.lenS (.s 11)), none, none⟩,
  ⟨(some 13), (.bin .lss (.s 10) (.s 12)), none, none⟩])
 (.cond (.s 13)
 .skip
 (.exit 0)))
 (.block 1
 (.seq
 (.reg [⟨(some 14), (.mv (.s 0)), none, none⟩,
  ⟨(some 15), (.mv (.s 5)), none, none⟩,
  ⟨(some 16), (.cutS (.s 14) (some (.s 15)) none), none, none⟩,
  ⟨(some 17), (.call 16 [(.s 16), (.c (ofL [123, 123]))]), none, none⟩,
  ⟨(some 6), (.mv (.s 17)), none, none⟩])
 (.seqj [0, 4, 5, 6]
 (.seq
 (.reg [⟨(some 18), (.mv (.s 6)), none, none⟩,
  ⟨(some 19), (.bin .lss (.s 18) (.c (.int .i64 (0)))), none, none⟩])
 (.cond (.s 19)
 (.reg [⟨(some 20), (.mv (.s 0)), none, none⟩,
  ⟨(some 21), (.lenS (.s 20)), none, none⟩,
  ⟨(some 22), (.mv (.s 5)), none, none⟩,
  ⟨(some 23), (.bin .sub (.s 21) (.s 22)), none, none⟩,
  ⟨(some 6), (.mv (.s 23)), none, none⟩])
 .skip))
 (.seqj [0, 4, 5]
 (.seq
 (.reg [⟨(some 24), (.mv (.s 6)), none, none⟩,
  ⟨(some 25), (.bin .gtr (.s 24) (.c (.int .i64 (0)))), none, none⟩])
 (.cond (.s 25)
 (.seq
 (.reg [⟨(some 26), (.mv (.s 4)), none, none⟩,
  ⟨(some 27), (.mv (.s 0)), none, none⟩,
  ⟨(some 28), (.mv (.s 5)), none, none⟩,
  ⟨(some 29), (.mv (.s 5)), none, none⟩,
  ⟨(some 30), (.mv (.s 6)), none, none⟩,
  ⟨(some 31), (.bin .add (.s 29) (.s 30)), none, none⟩,
  ⟨(some 32), (.cutS (.s 27) (some (.s 28)) (some (.s 31))), none, none⟩,
  ⟨(some 33), (.mv (.s 5)), none, none⟩,
  ⟨(some 34), (.build [(.bool false), (ofL []), (.int .i64 (0))] [(1, 1, (.s 32)), (2, 1, (.s 33))]), none, none⟩,
  ⟨(some 35), (.bsl 3 1 [(.bool false), (ofL []), (.int .i64 (0))] [(0, 3, (.s 34))]), none, none⟩,
  ⟨(some 36), (.app 3 (.s 26) (.s 35)), none, none⟩,
  ⟨(some 4), (.mv (.s 36)), none, none⟩])
 (.seq
 (.reg [⟨(some 37), (.mv (.s 5)), none, none⟩,
  ⟨(some 38), (.mv (.s 6)), none, none⟩,
  ⟨(some 39), (.bin .add (.s 37) (.s 38)), none, none⟩,
  ⟨(some 5), (.mv (.s 39)), none, none⟩])
 (.exit 1)))
 .skip))
 (.seq
 (.reg [⟨(some 40), (.mv (.s 0)), none, none⟩,
  ⟨(some 41), (.mv (.s 5)), none, none⟩,
  ⟨(some 42), (.bin .add (.s 41) (.c (.int .i64 (2)))), none, none⟩,
  ⟨(some 43), (.cutS (.s 40) (some (.s 42)) none), none, none⟩,
  ⟨(some 44), (.call 17 [(.s 43)]), none, none⟩,
  ⟨(some 6), (.mv (.s 44)), none, none⟩])
 (.seqj [0, 4, 5, 6]
 (.seq
 (.reg [⟨(some 45), (.mv (.s 6)), none, none⟩,
  ⟨(some 46), (.bin .lss (.s 45) (.c (.int .i64 (0)))), none, none⟩])
 (.cond (.s 46)
 (.seq
 (.reg [⟨(some 2), (.mv (.c .snil)), none, none⟩,
  ⟨(some 3), (.mv (.c (.int .i64 (11)))), none, none⟩])
 .ret)
 .skip))
 (.seq
 (.reg [⟨(some 47), (.mv (.s 4)), none, none⟩,
  ⟨(some 48), (.mv (.s 0)), none, none⟩,
  ⟨(some 49), (.mv (.s 5)), none, none⟩,
  ⟨(some 50), (.bin .add (.s 49) (.c (.int .i64 (2)))), none, none⟩,
  ⟨(some 51), (.mv (.s 5)), none, none⟩,
  ⟨(some 52), (.bin .add (.s 51) (.c (.int .i64 (2)))), none, none⟩,
  ⟨(some 53), (.mv (.s 6)), none, none⟩,
  ⟨(some 54), (.bin .add (.s 52) (.s 53)), none, none⟩,
  ⟨(some 55), (.cutS (.s 48) (some (.s 50)) (some (.s 54))), none, none⟩,
  ⟨(some 56), (.mv (.s 5)), none, none⟩,
  ⟨(some 57), (.build [(.bool false), (ofL []), (.int .i64 (0))] [(0, 1, (.c (.bool true))), (1, 1, (.s 55)), (2, 1, (.s 56))]), none, none⟩,
  ⟨(some 58), (.bsl 3 1 [(.bool false), (ofL []), (.int .i64 (0))] [(0, 3, (.s 57))]), none, none⟩,
  ⟨(some 59), (.app 3 (.s 47) (.s 58)), none, none⟩,
  ⟨(some 4), (.mv (.s 59)), none, none⟩])
 (.reg [⟨(some 60), (.mv (.s 5)), none, none⟩,
  ⟨(some 61), (.mv (.s 6)), none, none⟩,
  ⟨(some 62), (.bin .add (.c (.int .i64 (2))) (.s 61)), none, none⟩,
  ⟨(some 63), (.bin .add (.s 62) (.c (.int .i64 (2)))), none, none⟩,
  ⟨(some 64), (.bin .add (.s 60) (.s 63)), none, none⟩,
  ⟨(some 5), (.mv (.s 64)), none, none⟩]))))))))))))
 (.seqj [4]
 (.seq
 (.reg [⟨(some 65), (.mv (.s 4)), none, none⟩,
  ⟨(some 66), (.lenL (.s 65)), none, none⟩,
  ⟨(some 67), (.bin .gtr (.s 66) (.c (.int .i64 (200)))), none, none⟩])
 (.cond (.s 67)
 (.seq
 (.reg [⟨(some 2), (.mv (.c .snil)), none, none⟩,
  ⟨(some 3), (.mv (.c (.int .i64 (3)))), none, none⟩])
 .ret)
 .skip))
 (.seq
 (.reg [⟨(some 68), (.mv (.s 4)), none, none⟩,
  ⟨(some 2), (.mv (.s 68)), none, none⟩,
  ⟨(some 3), (.mv (.c (.int .i64 (0)))), none, none⟩])
 .ret)))))) }
theorem cf11_ok : compFn Try.prog Try.f11 [[0], [4], [0, 4, 5], [0, 4, 5], [0, 4, 5, 6], [0, 4, 5], [0, 4, 5, 6], [4]] = some cf11 := by kernel_rfl
/- sprue/text.end -/
def cf17 : Eva.Fn := { ntmps := 44, res := [(.s 2)], body :=
 (.seq
 (.reg [⟨(some 2), (.mv (.c (.int .i64 (0)))), none, none⟩])
 (.seq
 (.reg [⟨(some 3), (.mv (.c (.bool false))), none, none⟩,
  ⟨(some 4), (.mv (.c (.int .i64 (0)))), none, none⟩])
 (.seqj []
 (.seq
 (.reg [⟨(some 6), (.mv (.s 0)), none, none⟩,
  ⟨(some 7), (.lenS (.s 6)), none, none⟩,
  ⟨(some 8), (.mv (.c (.int .i64 (0)))), none, none⟩])
 (.block 0
 (.loop [0, 3, 4, 7, 8]
 (.seq
 (.reg [⟨(some 9), (.bin .lss (.s 8) (.s 7)), none, none⟩])
 (.seqj [0, 3, 4, 7, 8]
 (.cond (.s 9)
 .skip
 (.exit 0))
 (.seqj [0, 3, 4, 7, 8]
 (.block 1
 (.seq
 (.reg [⟨(some 10), (.mv (.s 8)), none, none⟩,
  ⟨(some 5), (.mv (.s 10)), none, none⟩])
 (.seqj [0, 3, 4, 5, 7, 8]
 (.block 2
 (.seq
 (.reg [⟨(some 12), (.mv (.s 0)), none, none⟩,
  ⟨(some 13), (.mv (.s 5)), none, none⟩,
  ⟨(some 14), (.idxS (.s 12) (.s 13)), none, none⟩,
  ⟨(some 15), (.eq (.one .i) false (.s 14) (.c (.int .u8 (34)))), none, none⟩,
  ⟨(some 16), (.mv (.s 15)), none, none⟩,
  ⟨(some 17), (.mv (.s 3)), (some (16, true)), none⟩,
  ⟨(some 18), (.not (.s 17)), (some (16, true)), none⟩,
  ⟨(some 19), (.mv (.s 18)), (some (16, true)), none⟩,
  ⟨(some 20), (.mv (.s 4)), (some (19, false)), none⟩,
  ⟨(some 21), (.bin .rem (.s 20) (.c (.int .i64 (2)))), (some (19, false)), none⟩,
  ⟨(some 22), (.eq (.one .i) false (.s 21) (.c (.int .i64 (0)))), (some (19, false)), none⟩,
  ⟨(some 23), (.pick (.s 19) (.c (.bool true)) (.s 22)), (some (16, true)), none⟩,
  ⟨(some 24), (.pick (.s 16) (.s 23) (.c (.bool false))), none, none⟩,
  ⟨(some 11), (.mv (.s 24)), none, none⟩])
 (.cond (.s 11)
 (.reg [⟨(some 25), (.mv (.s 3)), none, none⟩,
  ⟨(some 26), (.not (.s 25)), none, none⟩,
  ⟨(some 3), (.mv (.s 26)), none, none⟩])
 (.seq
 (.reg [⟨(some 28), (.mv (.s 3)), none, none⟩,
  ⟨(some 29), (.not (.s 28)), none, none⟩,
  ⟨(some 30), (.mv (.s 29)), none, none⟩,
  ⟨(some 31), (.mv (.s 0)), (some (30, true)), none⟩,
  ⟨(some 32), (.mv (.s 5)), (some (30, true)), none⟩,
  ⟨(some 33), (.cutS (.s 31) (some (.s 32)) none), (some (30, true)), none⟩,
  ⟨(some 34), (.call 20 [(.s 33), (.c (ofL [125, 125]))]), (some (30, true)), none⟩,
  ⟨(some 35), (.pick (.s 30) (.s 34) (.c (.bool false))), none, none⟩,
  ⟨(some 27), (.mv (.s 35)), none, none⟩])
 (.cond (.s 27)
 (.seq
 (.reg [⟨(some 36), (.mv (.s 5)), none, none⟩,
  ⟨(some 2), (.mv (.s 36)), none, none⟩])
 .ret)
 .skip)))))
 (.seq
 (.reg [⟨(some 37), (.mv (.s 0)), none, none⟩,
  ⟨(some 38), (.mv (.s 5)), none, none⟩,
  ⟨(some 39), (.idxS (.s 37) (.s 38)), none, none⟩,
  ⟨(some 40), (.eq (.one .i) false (.s 39) (.c (.int .u8 (92)))), none, none⟩])
 (.cond (.s 40)
 (.reg [⟨(some 41), (.mv (.s 4)), none, none⟩,
  ⟨(some 42), (.bin .add (.s 41) (.c (.int .i64 (1)))), none, none⟩,
  ⟨(some 4), (.mv (.s 42)), none, none⟩])
 (.reg [⟨(some 4), (.mv (.c (.int .i64 (0)))), none, none⟩]))))))
 (.reg [⟨(some 43), (.bin .add (.s 8) (.c (.int .i64 (1)))), none, none⟩,
  ⟨(some 8), (.mv (.s 43)), none, none⟩])))))))
 (.seq
 (.reg [⟨(some 2), (.mv (.c (.int .i64 (-1)))), none, none⟩])
 .ret)))) }
theorem cf17_ok : compFn Try.prog Try.f17 [[], [0, 3, 4, 7, 8], [0, 3, 4, 7, 8], [0, 3, 4, 7, 8], [0, 3, 4, 5, 7, 8]] = some cf17 := by kernel_rfl
/- strings.HasPrefix -/
def cf20 : Eva.Fn := { ntmps := 8, res := [(.s 4)], body :=
 (.seq
 (.reg [⟨(some 4), (.mv (.c (.bool false))), none, none⟩])
 (.seq
 (.reg [⟨(some 5), (.mv (.s 0)), none, none⟩,
  ⟨(some 6), (.mv (.s 1)), none, none⟩,
  ⟨(some 7), (.call 25 [(.s 5), (.s 6)]), none, none⟩,
  ⟨(some 4), (.mv (.s 7)), none, none⟩])
 .ret)) }
theorem cf20_ok : compFn Try.prog Try.f20 [] = some cf20 := by kernel_rfl
/- internal/stringslite.HasPrefix -/
def cf25 : Eva.Fn := { ntmps := 18, res := [(.s 4)], body :=
 (.seq
 (.reg [⟨(some 4), (.mv (.c (.bool false))), none, none⟩])
 (.seq
 (.reg [⟨(some 5), (.mv (.s 0)), none, none⟩,
  ⟨(some 6), (.lenS (.s 5)), none, none⟩,
  ⟨(some 7), (.mv (.s 1)), none, none⟩,
  ⟨(some 8), (.lenS (.s 7)), none, none⟩,
  ⟨(some 9), (.bin .geq (.s 6) (.s 8)), none, none⟩,
  ⟨(some 10), (.mv (.s 9)), none, none⟩,
  ⟨(some 11), (.mv (.s 0)), (some (10, true)), none⟩,
  ⟨(some 12), (.mv (.s 1)), (some (10, true)), none⟩,
  ⟨(some 13), (.lenS (.s 12)), (some (10, true)), none⟩,
  ⟨(some 14), (.cutS (.s 11) none (some (.s 13))), (some (10, true)), none⟩,
  ⟨(some 15), (.mv (.s 1)), (some (10, true)), none⟩,
  ⟨(some 16), (.eq (.one .s) false (.s 14) (.s 15)), (some (10, true)), none⟩,
  ⟨(some 17), (.pick (.s 10) (.s 16) (.c (.bool false))), none, none⟩,
  ⟨(some 4), (.mv (.s 17)), none, none⟩])
 .ret)) }
theorem cf25_ok : compFn Try.prog Try.f25 [] = some cf25 := by kernel_rfl
/- sprue/text.Place -/
def cf14 : Eva.Fn := { ntmps := 33, res := [(.s 4), (.s 5)], body :=
 (.seq
 (.reg [⟨(some 4), (.mv (.c (.int .i64 (0)))), none, none⟩,
  ⟨(some 5), (.mv (.c (.int .i64 (0)))), none, none⟩])
 (.seq
 (.reg [⟨(some 4), (.mv (.c (.int .i64 (1)))), none, none⟩])
 (.seq
 (.reg [⟨(some 9), (.mv (.s 1)), none, none⟩,
  ⟨(some 10), (.max (.s 9) (.c (.int .i64 (0)))), none, none⟩,
  ⟨(some 11), (.mv (.s 0)), none, none⟩,
  ⟨(some 12), (.lenS (.s 11)), none, none⟩,
  ⟨(some 13), (.min (.s 10) (.s 12)), none, none⟩,
  ⟨(some 1), (.mv (.s 13)), none, none⟩])
 (.seq
 (.reg [⟨(some 6), (.mv (.c (.int .i64 (0)))), none, none⟩])
 (.seqj [1, 4, 6]
 (.seq
 (.reg [⟨(some 14), (.mv (.s 0)), none, none⟩,
  ⟨(some 15), (.mv (.s 1)), none, none⟩,
  ⟨(some 16), (.cutS (.s 14) none (some (.s 15))), none, none⟩,
  ⟨(some 17), (.rngS (.s 16)), none, none⟩])
 (.block 0
 (.loop [1, 4, 6, 17]
 (.seq
 (.reg [⟨(some 18), (.nextS (.s 17)), none, none⟩,
  ⟨(some 19), (.ext 0 (.s 18)), none, none⟩])
 (.seqj [1, 4, 6, 17, 18]
 (.cond (.s 19)
 .skip
 (.exit 0))
 (.block 1
 (.seq
 (.reg [⟨(some 20), (.ext 1 (.s 18)), none, none⟩,
  ⟨(some 21), (.ext 2 (.s 18)), none, none⟩,
  ⟨(some 7), (.mv (.s 20)), none, none⟩,
  ⟨(some 8), (.mv (.s 21)), none, none⟩])
 (.seq
 (.reg [⟨(some 22), (.mv (.s 8)), none, none⟩,
  ⟨(some 23), (.eq (.one .i) false (.s 22) (.c (.int .i32 (10)))), none, none⟩])
 (.cond (.s 23)
 (.seq
 (.reg [⟨(some 24), (.mv (.s 4)), none, none⟩,
  ⟨(some 25), (.bin .add (.s 24) (.c (.int .i64 (1)))), none, none⟩,
  ⟨(some 4), (.mv (.s 25)), none, none⟩])
 (.reg [⟨(some 26), (.mv (.s 7)), none, none⟩,
  ⟨(some 27), (.bin .add (.s 26) (.c (.int .i64 (1)))), none, none⟩,
  ⟨(some 6), (.mv (.s 27)), none, none⟩]))
 .skip)))))))))
 (.seq
 (.reg [⟨(some 28), (.mv (.s 4)), none, none⟩,
  ⟨(some 29), (.mv (.s 1)), none, none⟩,
  ⟨(some 30), (.mv (.s 6)), none, none⟩,
  ⟨(some 31), (.bin .sub (.s 29) (.s 30)), none, none⟩,
  ⟨(some 32), (.bin .add (.s 31) (.c (.int .i64 (1)))), none, none⟩,
  ⟨(some 4), (.mv (.s 28)), none, none⟩,
  ⟨(some 5), (.mv (.s 32)), none, none⟩])
 .ret)))))) }
theorem cf14_ok : compFn Try.prog Try.f14 [[1, 4, 6], [1, 4, 6, 17], [1, 4, 6, 17, 18]] = some cf14 := by kernel_rfl
/- sprue/spruelaw2.TextPlaces -/
def cf7 : Eva.Fn := { ntmps := 72, res := [(.s 6)], body :=
 (.seq
 (.reg [⟨(some 6), (.mv (.c (.bool false))), none, none⟩])
 (.seqj [0, 1, 2]
 (.seq
 (.reg [⟨(some 16), (.call 9 []), none, none⟩,
  ⟨(some 17), (.not (.s 16)), none, none⟩])
 (.cond (.s 17)
 (.seq
 (.reg [⟨(some 6), (.mv (.c (.bool false))), none, none⟩])
 .ret)
 .skip))
 (.seqj [0, 1, 2]
 (.seq
 (.reg [⟨(some 18), (.mv (.s 0)), none, none⟩,
  ⟨(some 19), (.lenS (.s 18)), none, none⟩,
  ⟨(some 20), (.bin .gtr (.s 19) (.c (.int .i64 (2000)))), none, none⟩])
 (.cond (.s 20)
 (.seq
 (.reg [⟨(some 6), (.mv (.c (.bool true))), none, none⟩])
 .ret)
 .skip))
 (.seq
 (.reg [⟨(some 21), (.mv (.s 0)), none, none⟩,
  ⟨(some 22), (.mv (.s 1)), none, none⟩,
  ⟨(some 23), (.call 10 [(.s 22)]), none, none⟩,
  ⟨(some 24), (.bin .add (.s 21) (.s 23)), none, none⟩,
  ⟨(some 0), (.mv (.s 24)), none, none⟩])
 (.seq
 (.reg [⟨(some 25), (.mv (.s 2)), none, none⟩,
  ⟨(some 26), (.mv (.s 0)), none, none⟩,
  ⟨(some 27), (.lenS (.s 26)), none, none⟩,
  ⟨(some 28), (.bin .add (.s 27) (.c (.int .i64 (1)))), none, none⟩,
  ⟨(some 29), (.call 13 [(.s 25), (.s 28)]), none, none⟩,
  ⟨(some 7), (.mv (.s 29)), none, none⟩])
 (.seq
 (.reg [⟨(some 31), (.mv (.s 0)), none, none⟩,
  ⟨(some 32), (.mv (.s 2)), none, none⟩,
  ⟨(some 33), (.call 14 [(.s 31), (.s 32)]), none, none⟩,
  ⟨(some 30), (.mv (.s 33)), none, none⟩,
  ⟨(some 34), (.ext 0 (.s 30)), none, none⟩,
  ⟨(some 35), (.ext 1 (.s 30)), none, none⟩,
  ⟨(some 8), (.mv (.s 34)), none, none⟩,
  ⟨(some 9), (.mv (.s 35)), none, none⟩])
 (.seq
 (.reg [⟨(some 37), (.mv (.s 0)), none, none⟩,
  ⟨(some 38), (.mv (.s 2)), none, none⟩,
  ⟨(some 39), (.call 15 [(.s 37), (.s 38)]), none, none⟩,
  ⟨(some 36), (.mv (.s 39)), none, none⟩,
  ⟨(some 40), (.ext 0 (.s 36)), none, none⟩,
  ⟨(some 41), (.ext 1 (.s 36)), none, none⟩,
  ⟨(some 10), (.mv (.s 40)), none, none⟩,
  ⟨(some 11), (.mv (.s 41)), none, none⟩])
 (.seq
 (.reg [⟨(some 43), (.mv (.s 0)), none, none⟩,
  ⟨(some 44), (.mv (.s 7)), none, none⟩,
  ⟨(some 45), (.call 14 [(.s 43), (.s 44)]), none, none⟩,
  ⟨(some 42), (.mv (.s 45)), none, none⟩,
  ⟨(some 46), (.ext 0 (.s 42)), none, none⟩,
  ⟨(some 47), (.ext 1 (.s 42)), none, none⟩,
  ⟨(some 12), (.mv (.s 46)), none, none⟩,
  ⟨(some 13), (.mv (.s 47)), none, none⟩])
 (.seq
 (.reg [⟨(some 49), (.mv (.s 0)), none, none⟩,
  ⟨(some 50), (.mv (.s 7)), none, none⟩,
  ⟨(some 51), (.call 15 [(.s 49), (.s 50)]), none, none⟩,
  ⟨(some 48), (.mv (.s 51)), none, none⟩,
  ⟨(some 52), (.ext 0 (.s 48)), none, none⟩,
  ⟨(some 53), (.ext 1 (.s 48)), none, none⟩,
  ⟨(some 14), (.mv (.s 52)), none, none⟩,
  ⟨(some 15), (.mv (.s 53)), none, none⟩])
 (.seq
 (.reg [⟨(some 54), (.mv (.s 8)), none, none⟩,
  ⟨(some 55), (.mv (.s 10)), none, none⟩,
  ⟨(some 56), (.eq (.one .i) false (.s 54) (.s 55)), none, none⟩,
  ⟨(some 57), (.mv (.s 56)), none, none⟩,
  ⟨(some 58), (.mv (.s 9)), (some (57, true)), none⟩,
  ⟨(some 59), (.mv (.s 11)), (some (57, true)), none⟩,
  ⟨(some 60), (.eq (.one .i) false (.s 58) (.s 59)), (some (57, true)), none⟩,
  ⟨(some 61), (.pick (.s 57) (.s 60) (.c (.bool false))), none, none⟩,
  ⟨(some 62), (.mv (.s 61)), none, none⟩,
  ⟨(some 63), (.mv (.s 12)), (some (62, true)), none⟩,
  ⟨(some 64), (.mv (.s 14)), (some (62, true)), none⟩,
  ⟨(some 65), (.eq (.one .i) false (.s 63) (.s 64)), (some (62, true)), none⟩,
  ⟨(some 66), (.pick (.s 62) (.s 65) (.c (.bool false))), none, none⟩,
  ⟨(some 67), (.mv (.s 66)), none, none⟩,
  ⟨(some 68), (.mv (.s 13)), (some (67, true)), none⟩,
  ⟨(some 69), (.mv (.s 15)), (some (67, true)), none⟩,
  ⟨(some 70), (.eq (.one .i) false (.s 68) (.s 69)), (some (67, true)), none⟩,
  ⟨(some 71), (.pick (.s 67) (.s 70) (.c (.bool false))), none, none⟩,
  ⟨(some 6), (.mv (.s 71)), none, none⟩])
 .ret)))))))))) }
theorem cf7_ok : compFn Try.prog Try.f7 [[0, 1, 2], [0, 1, 2]] = some cf7 := by kernel_rfl
/- sprue/spruelaw2.mix -/
def cf10 : Eva.Fn := { ntmps := 30, res := [(.s 2)], body :=
 (.seq
 (.reg [⟨(some 2), (.mv (.c (ofL []))), none, none⟩])
 (.seq
 (.reg [⟨(some 6), (.bsl 1 13 [(ofL []), (ofL []), (ofL []), (ofL []), (ofL []), (ofL []), (ofL []), (ofL []), (ofL []), (ofL []), (ofL []), (ofL []), (ofL [])] [(0, 1, (.c (ofL [97]))), (1, 1, (.c (ofL [123, 123]))), (2, 1, (.c (ofL [125, 125]))), (3, 1, (.c (ofL [34]))), (4, 1, (.c (ofL [92]))), (5, 1, (.c (ofL [123]))), (6, 1, (.c (ofL [125]))), (7, 1, (.c (ofL [10]))), (8, 1, (.c (ofL [32]))), (9, 1, (.c (ofL [46, 120]))), (10, 1, (.c (ofL [123, 123, 46, 125, 125]))), (11, 1, (.c (ofL [123, 123, 34, 125, 125, 34, 125, 125]))), (12, 1, (.c (ofL [92, 34])))]), none, none⟩,
  ⟨(some 3), (.mv (.s 6)), none, none⟩])
 (.seq
 (.reg [⟨(some 4), (.mv (.c (ofL []))), none, none⟩])
 (.seqj [4]
 (.seq
 (.reg [⟨(some 5), (.mv (.c (.int .i64 (0)))), none, none⟩])
 (.block 0
 (.loop [0, 3, 4, 5]
 (.seqj [0, 3, 4, 5]
 (.seq
 (.reg [⟨(some 7), (.mv (.s 5)), none, none⟩,
  ⟨(some 8), (.mv (.s 0)), none, none⟩,
  ⟨(some 9), (.lenL (.s 8)), none, none⟩,
  ⟨(some 10), (.bin .lss (.s 7) (.s 9)), none, none⟩,
  ⟨(some 11), (.mv (.s 10)), none, none⟩,
  ⟨(some 12), (.mv (.s 5)), (some (11, true)), none⟩,
  ⟨(some 13), (.bin .lss (.s 12) (.c (.int .i64 (60)))), (some (11, true)), none⟩,
  ⟨(some 14), (.pick (.s 11) (.s 13) (.c (.bool false))), none, none⟩])
 (.cond (.s 14)
 .skip
 (.exit 0)))
 (.seqj [0, 3, 4, 5]
 (.block 1
 (.reg [⟨(some 17), (.mv (.s 4)), none, none⟩,
  ⟨(some 18), (.mv (.s 3)), none, none⟩,
  ⟨(some 19), (.mv (.s 0)), none, none⟩,
  ⟨(some 20), (.mv (.s 5)), none, none⟩,
  ⟨(some 21), (.iaddrS 1 (.s 19) (.s 20)), none, none⟩,
  ⟨(some 22), (.load1 (.s 21)), none, none⟩,
  ⟨(some 23), (.mv (.s 3)), none, none⟩,
  ⟨(some 24), (.lenL (.s 23)), none, none⟩,
  ⟨(some 25), (.call 13 [(.s 22), (.s 24)]), none, none⟩,
  ⟨(some 26), (.iaddrS 1 (.s 18) (.s 25)), none, none⟩,
  ⟨(some 27), (.load1 (.s 26)), none, none⟩,
  ⟨(some 28), (.bin .add (.s 17) (.s 27)), none, none⟩,
  ⟨(some 4), (.mv (.s 28)), none, none⟩]))
 (.reg [⟨(some 15), (.mv (.s 5)), none, none⟩,
  ⟨(some 16), (.bin .add (.s 15) (.c (.int .i64 (1)))), none, none⟩,
  ⟨(some 5), (.mv (.s 16)), none, none⟩]))))))
 (.seq
 (.reg [⟨(some 29), (.mv (.s 4)), none, none⟩,
  ⟨(some 2), (.mv (.s 29)), none, none⟩])
 .ret))))) }
theorem cf10_ok : compFn Try.prog Try.f10 [[4], [0, 3, 4, 5], [0, 3, 4, 5], [0, 3, 4, 5]] = some cf10 := by kernel_rfl
/- sprue/spruelaw2.within -/
def cf13 : Eva.Fn := { ntmps := 15, res := [(.s 4)], body :=
 (.seq
 (.reg [⟨(some 4), (.mv (.c (.int .i64 (0)))), none, none⟩])
 (.seq
 (.reg [⟨(some 6), (.mv (.s 0)), none, none⟩,
  ⟨(some 7), (.mv (.s 1)), none, none⟩,
  ⟨(some 8), (.bin .rem (.s 6) (.s 7)), none, none⟩,
  ⟨(some 5), (.mv (.s 8)), none, none⟩])
 (.seqj [5]
 (.seq
 (.reg [⟨(some 9), (.mv (.s 5)), none, none⟩,
  ⟨(some 10), (.bin .lss (.s 9) (.c (.int .i64 (0)))), none, none⟩])
 (.cond (.s 10)
 (.reg [⟨(some 11), (.mv (.s 5)), none, none⟩,
  ⟨(some 12), (.mv (.s 1)), none, none⟩,
  ⟨(some 13), (.bin .add (.s 11) (.s 12)), none, none⟩,
  ⟨(some 5), (.mv (.s 13)), none, none⟩])
 .skip))
 (.seq
 (.reg [⟨(some 14), (.mv (.s 5)), none, none⟩,
  ⟨(some 4), (.mv (.s 14)), none, none⟩])
 .ret)))) }
theorem cf13_ok : compFn Try.prog Try.f13 [[5]] = some cf13 := by kernel_rfl
/- sprue/sprueref2.Place -/
def cf15 : Eva.Fn := { ntmps := 29, res := [(.s 4), (.s 5)], body :=
 (.seq
 (.reg [⟨(some 4), (.mv (.c (.int .i64 (0)))), none, none⟩,
  ⟨(some 5), (.mv (.c (.int .i64 (0)))), none, none⟩])
 (.seq
 (.reg [⟨(some 9), (.mv (.s 1)), none, none⟩,
  ⟨(some 10), (.max (.s 9) (.c (.int .i64 (0)))), none, none⟩,
  ⟨(some 11), (.mv (.s 0)), none, none⟩,
  ⟨(some 12), (.lenS (.s 11)), none, none⟩,
  ⟨(some 13), (.min (.s 10) (.s 12)), none, none⟩,
  ⟨(some 1), (.mv (.s 13)), none, none⟩])
 (.seq
 (.reg [⟨(some 6), (.mv (.c (.int .i64 (1)))), none, none⟩,
  ⟨(some 7), (.mv (.c (.int .i64 (1)))), none, none⟩])
 (.seqj [6, 7]
 (.seq
 (.reg [⟨(some 8), (.mv (.c (.int .i64 (0)))), none, none⟩])
 (.block 0
 (.loop [0, 1, 6, 7, 8]
 (.seqj [0, 1, 6, 7, 8]
 (.seq
 (.reg [⟨(some 14), (.mv (.s 8)), none, none⟩,
  ⟨(some 15), (.mv (.s 1)), none, none⟩,
  ⟨(some 16), (.bin .lss (.s 14) (.s 15)), none, none⟩])
 (.cond (.s 16)
 .skip
 (.exit 0)))
 (.seqj [0, 1, 6, 7, 8]
 (.block 1
 (.seq
 (.reg [⟨(some 19), (.mv (.s 7)), none, none⟩,
  ⟨(some 20), (.bin .add (.s 19) (.c (.int .i64 (1)))), none, none⟩,
  ⟨(some 7), (.mv (.s 20)), none, none⟩])
 (.seq
 (.reg [⟨(some 21), (.mv (.s 0)), none, none⟩,
  ⟨(some 22), (.mv (.s 8)), none, none⟩,
  ⟨(some 23), (.idxS (.s 21) (.s 22)), none, none⟩,
  ⟨(some 24), (.eq (.one .i) false (.s 23) (.c (.int .u8 (10)))), none, none⟩])
 (.cond (.s 24)
 (.seq
 (.reg [⟨(some 25), (.mv (.s 6)), none, none⟩,
  ⟨(some 26), (.bin .add (.s 25) (.c (.int .i64 (1)))), none, none⟩,
  ⟨(some 6), (.mv (.s 26)), none, none⟩])
 (.reg [⟨(some 7), (.mv (.c (.int .i64 (1)))), none, none⟩]))
 .skip))))
 (.reg [⟨(some 17), (.mv (.s 8)), none, none⟩,
  ⟨(some 18), (.bin .add (.s 17) (.c (.int .i64 (1)))), none, none⟩,
  ⟨(some 8), (.mv (.s 18)), none, none⟩]))))))
 (.seq
 (.reg [⟨(some 27), (.mv (.s 6)), none, none⟩,
  ⟨(some 28), (.mv (.s 7)), none, none⟩,
  ⟨(some 4), (.mv (.s 27)), none, none⟩,
  ⟨(some 5), (.mv (.s 28)), none, none⟩])
 .ret))))) }
theorem cf15_ok : compFn Try.prog Try.f15 [[6, 7], [0, 1, 6, 7, 8], [0, 1, 6, 7, 8], [0, 1, 6, 7, 8]] = some cf15 := by kernel_rfl
/- sprue/spruelaw2.TextSplits -/
def cf3 : Eva.Fn := { ntmps := 140, res := [(.s 4)], body :=
 (.seq
 (.reg [⟨(some 4), (.mv (.c (.bool false))), none, none⟩])
 (.seqj [0, 1]
 (.seq
 (.reg [⟨(some 13), (.call 9 []), none, none⟩,
  ⟨(some 14), (.not (.s 13)), none, none⟩])
 (.cond (.s 14)
 (.seq
 (.reg [⟨(some 4), (.mv (.c (.bool false))), none, none⟩])
 .ret)
 .skip))
 (.seqj [0, 1]
 (.seq
 (.reg [⟨(some 15), (.mv (.s 0)), none, none⟩,
  ⟨(some 16), (.lenS (.s 15)), none, none⟩,
  ⟨(some 17), (.bin .gtr (.s 16) (.c (.int .i64 (2000)))), none, none⟩])
 (.cond (.s 17)
 (.seq
 (.reg [⟨(some 4), (.mv (.c (.bool true))), none, none⟩])
 .ret)
 .skip))
 (.seq
 (.reg [⟨(some 18), (.mv (.s 0)), none, none⟩,
  ⟨(some 19), (.mv (.s 1)), none, none⟩,
  ⟨(some 20), (.call 10 [(.s 19)]), none, none⟩,
  ⟨(some 21), (.mv (.s 1)), none, none⟩,
  ⟨(some 22), (.call 10 [(.s 21)]), none, none⟩,
  ⟨(some 23), (.mv (.s 0)), none, none⟩,
  ⟨(some 24), (.bin .add (.s 22) (.s 23)), none, none⟩,
  ⟨(some 25), (.bsl 1 3 [(ofL []), (ofL []), (ofL [])] [(0, 1, (.s 18)), (1, 1, (.s 20)), (2, 1, (.s 24))]), none, none⟩,
  ⟨(some 5), (.mv (.s 25)), none, none⟩])
 (.seqj []
 (.seq
 (.reg [⟨(some 6), (.mv (.c (.int .i64 (0)))), none, none⟩])
 (.block 0
 (.loop [5, 6]
 (.seqj [5, 6]
 (.seq
 (.reg [⟨(some 26), (.mv (.s 6)), none, none⟩,
  ⟨(some 27), (.bin .lss (.s 26) (.c (.int .i64 (3)))), none, none⟩])
 (.cond (.s 27)
 .skip
 (.exit 0)))
 (.seqj [5, 6]
 (.block 1
 (.seq
 (.reg [⟨(some 31), (.mv (.s 5)), none, none⟩,
  ⟨(some 32), (.mv (.s 6)), none, none⟩,
  ⟨(some 33), (.iaddrS 1 (.s 31) (.s 32)), none, none⟩,
  ⟨(some 34), (.load1 (.s 33)), none, none⟩,
  ⟨(some 35), (.call 11 [(.s 34)]), none, none⟩,
  ⟨(some 30), (.mv (.s 35)), none, none⟩,
  ⟨(some 36), (.ext 0 (.s 30)), none, none⟩,
  ⟨(some 37), (.ext 1 (.s 30)), none, none⟩,
  ⟨(some 7), (.mv (.s 36)), none, none⟩,
  ⟨(some 8), (.mv (.s 37)), none, none⟩])
 (.seq
 (.reg [⟨(some 39), (.mv (.s 5)), none, none⟩,
  ⟨(some 40), (.mv (.s 6)), none, none⟩,
  ⟨(some 41), (.iaddrS 1 (.s 39) (.s 40)), none, none⟩,
  ⟨(some 42), (.load1 (.s 41)), none, none⟩,
  ⟨(some 43), (.call 12 [(.s 42)]), none, none⟩,
  ⟨(some 38), (.mv (.s 43)), none, none⟩,
  ⟨(some 44), (.ext 0 (.s 38)), none, none⟩,
  ⟨(some 45), (.ext 1 (.s 38)), none, none⟩,
  ⟨(some 9), (.mv (.s 44)), none, none⟩,
  ⟨(some 10), (.mv (.s 45)), none, none⟩])
 (.seqj [5, 6, 7, 8, 9]
 (.seq
 (.reg [⟨(some 46), (.mv (.s 8)), none, none⟩,
  ⟨(some 47), (.mv (.s 10)), none, none⟩,
  ⟨(some 48), (.eq (.one .i) true (.s 46) (.s 47)), none, none⟩,
  ⟨(some 49), (.mv (.s 48)), none, none⟩,
  ⟨(some 50), (.mv (.s 7)), (some (49, false)), none⟩,
  ⟨(some 51), (.lenL (.s 50)), (some (49, false)), none⟩,
  ⟨(some 52), (.mv (.s 9)), (some (49, false)), none⟩,
  ⟨(some 53), (.lenL (.s 52)), (some (49, false)), none⟩,
  ⟨(some 54), (.eq (.one .i) true (.s 51) (.s 53)), (some (49, false)), none⟩,
  ⟨(some 55), (.pick (.s 49) (.c (.bool true)) (.s 54)), none, none⟩])
 (.cond (.s 55)
 (.seq
 (.reg [⟨(some 4), (.mv (.c (.bool false))), none, none⟩])
 .ret)
 .skip))
 (.seq
 (.reg [⟨(some 11), (.mv (.c (ofL []))), none, none⟩])
 (.seqj [5, 6, 8, 11]
 (.seq
 (.reg [⟨(some 12), (.mv (.c (.int .i64 (0)))), none, none⟩])
 (.block 2
 (.loop [5, 6, 7, 8, 9, 11, 12]
 (.seqj [5, 6, 7, 8, 9, 11, 12]
 (.seq
 (.reg [⟨(some 56), (.mv (.s 12)), none, none⟩,
  ⟨(some 57), (.mv (.s 7)), none, none⟩,
  ⟨(some 58), (.lenL (.s 57)), none, none⟩,
  ⟨(some 59), (.bin .lss (.s 56) (.s 58)), none, none⟩])
 (.cond (.s 59)
 .skip
 (.exit 2)))
 (.seqj [5, 6, 7, 8, 9, 11, 12]
 (.block 3
 (.seqj [5, 6, 7, 8, 9, 11, 12]
 (.seq
 (.drw [⟨(some 62), (.mv (.s 7)), none, none⟩,
  ⟨(some 63), (.mv (.s 12)), none, none⟩,
  ⟨(some 64), (.iaddrS 3 (.s 62) (.s 63)), none, none⟩,
  ⟨(some 65), (.faddr 0 (.s 64)), none, none⟩,
  ⟨(some 66), (.load1 (.s 65)), none, none⟩,
  ⟨(some 67), (.mv (.s 9)), none, none⟩,
  ⟨(some 68), (.mv (.s 12)), none, none⟩,
  ⟨(some 69), (.iaddrS 3 (.s 67) (.s 68)), none, none⟩,
  ⟨(some 70), (.faddr 0 (.s 69)), none, none⟩,
  ⟨(some 71), (.load1 (.s 70)), none, none⟩,
  ⟨(some 72), (.eq (.one .b) true (.s 66) (.s 71)), none, none⟩,
  ⟨(some 73), (.mv (.s 72)), none, none⟩,
  ⟨(some 74), (.mv (.s 7)), (some (73, false)), none⟩,
  ⟨(some 75), (.mv (.s 12)), (some (73, false)), none⟩,
  ⟨(some 76), (.iaddrS 3 (.s 74) (.s 75)), (some (73, false)), none⟩,
  ⟨(some 77), (.faddr 1 (.s 76)), (some (73, false)), none⟩,
  ⟨(some 78), (.load1 (.s 77)), (some (73, false)), none⟩,
  ⟨(some 79), (.mv (.s 9)), (some (73, false)), none⟩,
  ⟨(some 80), (.mv (.s 12)), (some (73, false)), none⟩,
  ⟨(some 81), (.iaddrS 3 (.s 79) (.s 80)), (some (73, false)), none⟩,
  ⟨(some 82), (.faddr 1 (.s 81)), (some (73, false)), none⟩,
  ⟨(some 83), (.load1 (.s 82)), (some (73, false)), none⟩,
  ⟨(some 84), (.eq (.one .s) true (.s 78) (.s 83)), (some (73, false)), none⟩,
  ⟨(some 85), (.pick (.s 73) (.c (.bool true)) (.s 84)), none, none⟩,
  ⟨(some 86), (.mv (.s 85)), none, none⟩,
  ⟨(some 87), (.mv (.s 7)), (some (86, false)), none⟩,
  ⟨(some 88), (.mv (.s 12)), (some (86, false)), none⟩,
  ⟨(some 89), (.iaddrS 3 (.s 87) (.s 88)), (some (86, false)), none⟩,
  ⟨(some 90), (.faddr 2 (.s 89)), (some (86, false)), none⟩,
  ⟨(some 91), (.load1 (.s 90)), (some (86, false)), none⟩,
  ⟨(some 92), (.mv (.s 9)), (some (86, false)), none⟩,
  ⟨(some 93), (.mv (.s 12)), (some (86, false)), none⟩,
  ⟨(some 94), (.iaddrS 3 (.s 92) (.s 93)), (some (86, false)), none⟩,
  ⟨(some 95), (.faddr 2 (.s 94)), (some (86, false)), none⟩,
  ⟨(some 96), (.load1 (.s 95)), (some (86, false)), none⟩,
  ⟨(some 97), (.eq (.one .i) true (.s 91) (.s 96)), (some (86, false)), none⟩,
  ⟨(some 98), (.pick (.s 86) (.c (.bool true)) (.s 97)), none, none⟩,
  ⟨(some 99), (.mv (.s 98)), none, none⟩,
  ⟨(some 100), (.mv (.s 7)), (some (99, false)), none⟩,
  ⟨(some 101), (.mv (.s 12)), (some (99, false)), none⟩,
  ⟨(some 102), (.iaddrS 3 (.s 100) (.s 101)), (some (99, false)), none⟩,
  ⟨(some 103), (.faddr 2 (.s 102)), (some (99, false)), none⟩,
  ⟨(some 104), (.load1 (.s 103)), (some (99, false)), none⟩,
  ⟨(some 105), (.mv (.s 11)), (some (99, false)), none⟩,
  ⟨(some 106), (.lenS (.s 105)), (some (99, false)), none⟩,
  ⟨(some 107), (.eq (.one .i) true (.s 104) (.s 106)), (some (99, false)), none⟩,
  ⟨(some 108), (.pick (.s 99) (.c (.bool true)) (.s 107)), none, none⟩] [])
 (.cond (.s 108)
 (.seq
 (.reg [⟨(some 4), (.mv (.c (.bool false))), none, none⟩])
 .ret)
 .skip))
 (.seq
 (.reg [⟨(some 109), (.mv (.s 7)), none, none⟩,
  ⟨(some 110), (.mv (.s 12)), none, none⟩,
  ⟨(some 111), (.iaddrS 3 (.s 109) (.s 110)), none, none⟩,
  ⟨(some 112), (.faddr 0 (.s 111)), none, none⟩,
  ⟨(some 113), (.load1 (.s 112)), none, none⟩])
 (.cond (.s 113)
 (.reg [⟨(some 114), (.mv (.s 11)), none, none⟩,
  ⟨(some 115), (.bin .add (.s 114) (.c (ofL [123, 123]))), none, none⟩,
  ⟨(some 116), (.mv (.s 7)), none, none⟩,
  ⟨(some 117), (.mv (.s 12)), none, none⟩,
  ⟨(some 118), (.iaddrS 3 (.s 116) (.s 117)), none, none⟩,
  ⟨(some 119), (.faddr 1 (.s 118)), none, none⟩,
  ⟨(some 120), (.load1 (.s 119)), none, none⟩,
  ⟨(some 121), (.bin .add (.s 115) (.s 120)), none, none⟩,
  ⟨(some 122), (.bin .add (.s 121) (.c (ofL [125, 125]))), none, none⟩,
  ⟨(some 11), (.mv (.s 122)), none, none⟩])
 (.reg [⟨(some 123), (.mv (.s 11)), none, none⟩,
  ⟨(some 124), (.mv (.s 7)), none, none⟩,
  ⟨(some 125), (.mv (.s 12)), none, none⟩,
  ⟨(some 126), (.iaddrS 3 (.s 124) (.s 125)), none, none⟩,
  ⟨(some 127), (.faddr 1 (.s 126)), none, none⟩,
  ⟨(some 128), (.load1 (.s 127)), none, none⟩,
  ⟨(some 129), (.bin .add (.s 123) (.s 128)), none, none⟩,
  ⟨(some 11), (.mv (.s 129)), none, none⟩])))))
 (.reg [⟨(some 60), (.mv (.s 12)), none, none⟩,
  ⟨(some 61), (.bin .add (.s 60) (.c (.int .i64 (1)))), none, none⟩,
  ⟨(some 12), (.mv (.s 61)), none, none⟩]))))))
 (.seq
 (.reg [⟨(some 130), (.mv (.s 8)), none, none⟩,
  ⟨(some 131), (.eq (.one .i) false (.s 130) (.c (.int .i64 (0)))), none, none⟩,
  ⟨(some 132), (.mv (.s 131)), none, none⟩,
  ⟨(some 133), (.mv (.s 11)), (some (132, true)), none⟩,
  ⟨(some 134), (.mv (.s 5)), (some (132, true)), none⟩,
  ⟨(some 135), (.mv (.s 6)), (some (132, true)), none⟩,
  ⟨(some 136), (.iaddrS 1 (.s 134) (.s 135)), (some (132, true)), none⟩,
  ⟨(some 137), (.load1 (.s 136)), (some (132, true)), none⟩,
  ⟨(some 138), (.eq (.one .s) true (.s 133) (.s 137)), (some (132, true)), none⟩,
  ⟨(some 139), (.pick (.s 132) (.s 138) (.c (.bool false))), none, none⟩])
 (.cond (.s 139)
 (.seq
 (.reg [⟨(some 4), (.mv (.c (.bool false))), none, none⟩])
 .ret)
 .skip))))))))
 (.reg [⟨(some 28), (.mv (.s 6)), none, none⟩,
  ⟨(some 29), (.bin .add (.s 28) (.c (.int .i64 (1)))), none, none⟩,
  ⟨(some 6), (.mv (.s 29)), none, none⟩]))))))
 (.seq
 (.reg [⟨(some 4), (.mv (.c (.bool true))), none, none⟩])
 .ret)))))) }
theorem cf3_ok : compFn Try.prog Try.f3 [[0, 1], [0, 1], [], [5, 6], [5, 6], [5, 6], [5, 6, 7, 8, 9], [5, 6, 8, 11], [5, 6, 7, 8, 9, 11, 12], [5, 6, 7, 8, 9, 11, 12], [5, 6, 7, 8, 9, 11, 12], [5, 6, 7, 8, 9, 11, 12]] = some cf3 := by kernel_rfl
/- sprue/sprueref2.Split -/
def cf12 : Eva.Fn := { ntmps := 82, res := [(.s 2), (.s 3)], body :=
 (.seq
 (.reg [⟨(some 2), (.mv (.c .snil)), none, none⟩,
  ⟨(some 3), (.mv (.c (.int .i64 (0)))), none, none⟩])
 (.seqj [0]
 (.seq
 (.reg [⟨(some 8), (.mv (.s 0)), none, none⟩,
  ⟨(some 9), (.lenS (.s 8)), none, none⟩,
  ⟨(some 10), (.bin .gtr (.s 9) (.c (.int .i64 (1500)))), none, none⟩])
 (.cond (.s 10)
 (.seq
 (.reg [⟨(some 2), (.mv (.c .snil)), none, none⟩,
  ⟨(some 3), (.mv (.c (.int .i64 (4)))), none, none⟩])
 .ret)
 .skip))
 (.seq
 (.reg [⟨(some 4), (.mv (.c .snil)), none, none⟩])
 (.seq
 (.reg [⟨(some 5), (.mv (.c (.int .i64 (0)))), none, none⟩,
  ⟨(some 6), (.mv (.c (.int .i64 (0)))), none, none⟩])
 (.seqj [0, 4, 6]
 (.block 0
 (.loop [0, 4, 5, 6]
 (.seqj [0, 4, 5, 6]
 (.seq
 (.reg [⟨(some 11), (.mv (.s 5)), none, none⟩,
  ⟨(some 12), (.mv (.s 0)), none, none⟩,
  ⟨(some 13), (.lenS (.s 12)), none, none⟩,
  ⟨(some 14), (.bin .lss (.s 11) (.s 13)), none, none⟩])
 (.cond (.s 14)
 .skip
 (.exit 0)))
 (.block 1
 (.seqj [0, 4, 5, 6]
 (.seq
 (.reg [⟨(some 15), (.mv (.s 5)), none, none⟩,
  ⟨(some 16), (.bin .add (.s 15) (.c (.int .i64 (1)))), none, none⟩,
  ⟨(some 17), (.mv (.s 0)), none, none⟩,
  ⟨(some 18), (.lenS (.s 17)), none, none⟩,
  ⟨(some 19), (.bin .geq (.s 16) (.s 18)), none, none⟩,
  ⟨(some 20), (.mv (.s 19)), none, none⟩,
  ⟨(some 21), (.mv (.s 0)), (some (20, false)), none⟩,
  ⟨(some 22), (.mv (.s 5)), (some (20, false)), none⟩,
  ⟨(some 23), (.idxS (.s 21) (.s 22)), (some (20, false)), none⟩,
  ⟨(some 24), (.eq (.one .i) true (.s 23) (.c (.int .u8 (123)))), (some (20, false)), none⟩,
  ⟨(some 25), (.pick (.s 20) (.c (.bool true)) (.s 24)), none, none⟩,
  ⟨(some 26), (.mv (.s 25)), none, none⟩,
  ⟨(some 27), (.mv (.s 0)), (some (26, false)), none⟩,
  ⟨(some 28), (.mv (.s 5)), (some (26, false)), none⟩,
  ⟨(some 29), (.bin .add (.s 28) (.c (.int .i64 (1)))), (some (26, false)), none⟩,
  ⟨(some 30), (.idxS (.s 27) (.s 29)), (some (26, false)), none⟩,
  ⟨(some 31), (.eq (.one .i) true (.s 30) (.c (.int .u8 (123)))), (some (26, false)), none⟩,
  ⟨(some 32), (.pick (.s 26) (.c (.bool true)) (.s 31)), none, none⟩])
 (.cond (.s 32)
 (.seq
 (.reg [⟨(some 33), (.mv (.s 5)), none, none⟩,
  ⟨(some 34), (.bin .add (.s 33) (.c (.int .i64 (1)))), none, none⟩,
  ⟨(some 5), (.mv (.s 34)), none, none⟩])
 (.exit 1))
 .skip))
 (.seqj [0, 4, 5]
 (.seq
 (.reg [⟨(some 35), (.mv (.s 5)), none, none⟩,
  ⟨(some 36), (.mv (.s 6)), none, none⟩,
  ⟨(some 37), (.bin .gtr (.s 35) (.s 36)), none, none⟩])
 (.cond (.s 37)
 (.reg [⟨(some 38), (.mv (.s 4)), none, none⟩,
  ⟨(some 39), (.mv (.s 0)), none, none⟩,
  ⟨(some 40), (.mv (.s 6)), none, none⟩,
  ⟨(some 41), (.mv (.s 5)), none, none⟩,
  ⟨(some 42), (.cutS (.s 39) (some (.s 40)) (some (.s 41))), none, none⟩,
  ⟨(some 43), (.mv (.s 6)), none, none⟩,
  ⟨(some 44), (.build [(.bool false), (ofL []), (.int .i64 (0))] [(1, 1, (.s 42)), (2, 1, (.s 43))]), none, none⟩,
  ⟨(some 45), (.bsl 3 1 [(.bool false), (ofL []), (.int .i64 (0))] [(0, 3, (.s 44))]), none, none⟩,
  ⟨(some 46), (.app 3 (.s 38) (.s 45)), none, none⟩,
  ⟨(some 4), (.mv (.s 46)), none, none⟩])
 .skip))
 (.seq
 (.reg [⟨(some 47), (.mv (.s 0)), none, none⟩,
  ⟨(some 48), (.mv (.s 5)), none, none⟩,
  ⟨(some 49), (.bin .add (.s 48) (.c (.int .i64 (2)))), none, none⟩,
  ⟨(some 50), (.call 18 [(.s 47), (.s 49)]), none, none⟩,
  ⟨(some 7), (.mv (.s 50)), none, none⟩])
 (.seqj [0, 4, 5, 7]
 (.seq
 (.reg [⟨(some 51), (.mv (.s 7)), none, none⟩,
  ⟨(some 52), (.bin .lss (.s 51) (.c (.int .i64 (0)))), none, none⟩])
 (.cond (.s 52)
 (.seq
 (.reg [⟨(some 2), (.mv (.c .snil)), none, none⟩,
  ⟨(some 3), (.mv (.c (.int .i64 (11)))), none, none⟩])
 .ret)
 .skip))
 (.seq
 (.reg [⟨(some 53), (.mv (.s 4)), none, none⟩,
  ⟨(some 54), (.mv (.s 0)), none, none⟩,
  ⟨(some 55), (.mv (.s 5)), none, none⟩,
  ⟨(some 56), (.bin .add (.s 55) (.c (.int .i64 (2)))), none, none⟩,
  ⟨(some 57), (.mv (.s 7)), none, none⟩,
  ⟨(some 58), (.cutS (.s 54) (some (.s 56)) (some (.s 57))), none, none⟩,
  ⟨(some 59), (.mv (.s 5)), none, none⟩,
  ⟨(some 60), (.build [(.bool false), (ofL []), (.int .i64 (0))] [(0, 1, (.c (.bool true))), (1, 1, (.s 58)), (2, 1, (.s 59))]), none, none⟩,
  ⟨(some 61), (.bsl 3 1 [(.bool false), (ofL []), (.int .i64 (0))] [(0, 3, (.s 60))]), none, none⟩,
  ⟨(some 62), (.app 3 (.s 53) (.s 61)), none, none⟩,
  ⟨(some 4), (.mv (.s 62)), none, none⟩])
 (.seq
 (.reg [⟨(some 63), (.mv (.s 7)), none, none⟩,
  ⟨(some 64), (.bin .add (.s 63) (.c (.int .i64 (2)))), none, none⟩,
  ⟨(some 5), (.mv (.s 64)), none, none⟩])
 (.reg [⟨(some 65), (.mv (.s 5)), none, none⟩,
  ⟨(some 6), (.mv (.s 65)), none, none⟩])))))))))))
 (.seqj [4]
 (.seq
 (.reg [⟨(some 66), (.mv (.s 0)), none, none⟩,
  ⟨(some 67), (.lenS (.s 66)), none, none⟩,
  ⟨(some 68), (.mv (.s 6)), none, none⟩,
  ⟨(some 69), (.bin .gtr (.s 67) (.s 68)), none, none⟩])
 (.cond (.s 69)
 (.reg [⟨(some 70), (.mv (.s 4)), none, none⟩,
  ⟨(some 71), (.mv (.s 0)), none, none⟩,
  ⟨(some 72), (.mv (.s 6)), none, none⟩,
  ⟨(some 73), (.cutS (.s 71) (some (.s 72)) none), none, none⟩,
  ⟨(some 74), (.mv (.s 6)), none, none⟩,
  ⟨(some 75), (.build [(.bool false), (ofL []), (.int .i64 (0))] [(1, 1, (.s 73)), (2, 1, (.s 74))]), none, none⟩,
  ⟨(some 76), (.bsl 3 1 [(.bool false), (ofL []), (.int .i64 (0))] [(0, 3, (.s 75))]), none, none⟩,
  ⟨(some 77), (.app 3 (.s 70) (.s 76)), none, none⟩,
  ⟨(some 4), (.mv (.s 77)), none, none⟩])
 .skip))
 (.seqj [4]
 (.seq
 (.reg [⟨(some 78), (.mv (.s 4)), none, none⟩,
  ⟨(some 79), (.lenL (.s 78)), none, none⟩,
  ⟨(some 80), (.bin .gtr (.s 79) (.c (.int .i64 (200)))), none, none⟩])
 (.cond (.s 80)
 (.seq
 (.reg [⟨(some 2), (.mv (.c .snil)), none, none⟩,
  ⟨(some 3), (.mv (.c (.int .i64 (3)))), none, none⟩])
 .ret)
 .skip))
 (.seq
 (.reg [⟨(some 81), (.mv (.s 4)), none, none⟩,
  ⟨(some 2), (.mv (.s 81)), none, none⟩,
  ⟨(some 3), (.mv (.c (.int .i64 (0)))), none, none⟩])
 .ret)))))))) }
theorem cf12_ok : compFn Try.prog Try.f12 [[0], [0, 4, 6], [0, 4, 5, 6], [0, 4, 5, 6], [0, 4, 5, 6], [0, 4, 5], [0, 4, 5, 7], [4], [4]] = some cf12 := by kernel_rfl
/- sprue/sprueref2.end -/
def cf18 : Eva.Fn := { ntmps := 56, res := [(.s 4)], body :=
 (.seq
 (.reg [⟨(some 4), (.mv (.c (.int .i64 (0)))), none, none⟩])
 (.seq
 (.reg [⟨(some 5), (.mv (.c (.bool false))), none, none⟩,
  ⟨(some 6), (.mv (.c (.int .i64 (0)))), none, none⟩])
 (.seqj []
 (.block 0
 (.loop [0, 1, 5, 6]
 (.seqj [0, 1, 5, 6]
 (.seq
 (.reg [⟨(some 8), (.mv (.s 1)), none, none⟩,
  ⟨(some 9), (.mv (.s 0)), none, none⟩,
  ⟨(some 10), (.lenS (.s 9)), none, none⟩,
  ⟨(some 11), (.bin .lss (.s 8) (.s 10)), none, none⟩])
 (.cond (.s 11)
 .skip
 (.exit 0)))
 (.block 1
 (.seq
 (.reg [⟨(some 12), (.mv (.s 0)), none, none⟩,
  ⟨(some 13), (.mv (.s 1)), none, none⟩,
  ⟨(some 14), (.idxS (.s 12) (.s 13)), none, none⟩,
  ⟨(some 7), (.mv (.s 14)), none, none⟩])
 (.seqj [0, 1, 5, 6]
 (.block 2
 (.seq
 (.reg [⟨(some 23), (.mv (.s 5)), none, none⟩,
  ⟨(some 24), (.not (.s 23)), none, none⟩,
  ⟨(some 25), (.mv (.s 24)), none, none⟩,
  ⟨(some 26), (.mv (.s 7)), (some (25, true)), none⟩,
  ⟨(some 27), (.eq (.one .i) false (.s 26) (.c (.int .u8 (125)))), (some (25, true)), none⟩,
  ⟨(some 28), (.pick (.s 25) (.s 27) (.c (.bool false))), none, none⟩,
  ⟨(some 29), (.mv (.s 28)), none, none⟩,
  ⟨(some 30), (.mv (.s 1)), (some (29, true)), none⟩,
  ⟨(some 31), (.bin .add (.s 30) (.c (.int .i64 (1)))), (some (29, true)), none⟩,
  ⟨(some 32), (.mv (.s 0)), (some (29, true)), none⟩,
  ⟨(some 33), (.lenS (.s 32)), (some (29, true)), none⟩,
  ⟨(some 34), (.bin .lss (.s 31) (.s 33)), (some (29, true)), none⟩,
  ⟨(some 35), (.pick (.s 29) (.s 34) (.c (.bool false))), none, none⟩,
  ⟨(some 36), (.mv (.s 35)), none, none⟩,
  ⟨(some 37), (.mv (.s 0)), (some (36, true)), none⟩,
  ⟨(some 38), (.mv (.s 1)), (some (36, true)), none⟩,
  ⟨(some 39), (.bin .add (.s 38) (.c (.int .i64 (1)))), (some (36, true)), none⟩,
  ⟨(some 40), (.idxS (.s 37) (.s 39)), (some (36, true)), none⟩,
  ⟨(some 41), (.eq (.one .i) false (.s 40) (.c (.int .u8 (125)))), (some (36, true)), none⟩,
  ⟨(some 42), (.pick (.s 36) (.s 41) (.c (.bool false))), none, none⟩,
  ⟨(some 22), (.mv (.s 42)), none, none⟩])
 (.cond (.s 22)
 (.seq
 (.reg [⟨(some 43), (.mv (.s 1)), none, none⟩,
  ⟨(some 4), (.mv (.s 43)), none, none⟩])
 .ret)
 (.seq
 (.reg [⟨(some 45), (.mv (.s 5)), none, none⟩,
  ⟨(some 46), (.not (.s 45)), none, none⟩,
  ⟨(some 44), (.mv (.s 46)), none, none⟩])
 (.cond (.s 44)
 (.seq
 (.reg [⟨(some 47), (.mv (.s 7)), none, none⟩,
  ⟨(some 48), (.eq (.one .i) false (.s 47) (.c (.int .u8 (34)))), none, none⟩,
  ⟨(some 5), (.mv (.s 48)), none, none⟩])
 (.reg [⟨(some 6), (.mv (.c (.int .i64 (0)))), none, none⟩]))
 (.seq
 (.reg [⟨(some 50), (.mv (.s 7)), none, none⟩,
  ⟨(some 51), (.eq (.one .i) false (.s 50) (.c (.int .u8 (92)))), none, none⟩,
  ⟨(some 49), (.mv (.s 51)), none, none⟩])
 (.cond (.s 49)
 (.reg [⟨(some 52), (.mv (.s 6)), none, none⟩,
  ⟨(some 53), (.bin .add (.s 52) (.c (.int .i64 (1)))), none, none⟩,
  ⟨(some 6), (.mv (.s 53)), none, none⟩])
 (.seq
 (.reg [⟨(some 15), (.mv (.s 7)), none, none⟩,
  ⟨(some 16), (.eq (.one .i) true (.s 15) (.c (.int .u8 (34)))), none, none⟩,
  ⟨(some 17), (.mv (.s 16)), none, none⟩,
  ⟨(some 18), (.mv (.s 6)), (some (17, false)), none⟩,
  ⟨(some 19), (.bin .rem (.s 18) (.c (.int .i64 (2)))), (some (17, false)), none⟩,
  ⟨(some 20), (.eq (.one .i) false (.s 19) (.c (.int .i64 (1)))), (some (17, false)), none⟩,
  ⟨(some 21), (.pick (.s 17) (.c (.bool true)) (.s 20)), none, none⟩,
  ⟨(some 5), (.mv (.s 21)), none, none⟩])
 (.reg [⟨(some 6), (.mv (.c (.int .i64 (0)))), none, none⟩])))))))))
 (.reg [⟨(some 54), (.mv (.s 1)), none, none⟩,
  ⟨(some 55), (.bin .add (.s 54) (.c (.int .i64 (1)))), none, none⟩,
  ⟨(some 1), (.mv (.s 55)), none, none⟩])))))))
 (.seq
 (.reg [⟨(some 4), (.mv (.c (.int .i64 (-1)))), none, none⟩])
 .ret)))) }
theorem cf18_ok : compFn Try.prog Try.f18 [[], [0, 1, 5, 6], [0, 1, 5, 6], [0, 1, 5, 6]] = some cf18 := by kernel_rfl
/- sprue/spruelaw2.TextJoins -/
def cf6 : Eva.Fn := { ntmps := 197, res := [(.s 4)], body :=
 (.seq
 (.reg [⟨(some 4), (.mv (.c (.bool false))), none, none⟩])
 (.seqj [0, 1]
 (.seq
 (.reg [⟨(some 20), (.call 9 []), none, none⟩,
  ⟨(some 21), (.not (.s 20)), none, none⟩])
 (.cond (.s 21)
 (.seq
 (.reg [⟨(some 4), (.mv (.c (.bool false))), none, none⟩])
 .ret)
 .skip))
 (.seq
 (.reg [⟨(some 22), (.bsl 1 7 [(ofL []), (ofL []), (ofL []), (ofL []), (ofL []), (ofL []), (ofL [])] [(0, 1, (.c (ofL [120]))), (1, 1, (.c (ofL [10]))), (2, 1, (.c (ofL [123, 123, 46, 125, 125]))), (3, 1, (.c (ofL [123, 123, 32, 97, 32, 34, 125, 125, 34, 32, 125, 125]))), (4, 1, (.c (ofL [125]))), (5, 1, (.c (ofL [34]))), (6, 1, (.c (ofL [123, 123, 125, 125])))]), none, none⟩,
  ⟨(some 5), (.mv (.s 22)), none, none⟩])
 (.seq
 (.reg [⟨(some 6), (.mv (.c (ofL []))), none, none⟩,
  ⟨(some 7), (.mv (.c (ofL []))), none, none⟩])
 (.seqj [1, 5, 6, 7]
 (.seq
 (.reg [⟨(some 8), (.mv (.c (.int .i64 (0)))), none, none⟩])
 (.block 0
 (.loop [0, 1, 5, 6, 7, 8]
 (.seqj [0, 1, 5, 6, 7, 8]
 (.seq
 (.reg [⟨(some 23), (.mv (.s 8)), none, none⟩,
  ⟨(some 24), (.mv (.s 0)), none, none⟩,
  ⟨(some 25), (.lenL (.s 24)), none, none⟩,
  ⟨(some 26), (.bin .lss (.s 23) (.s 25)), none, none⟩,
  ⟨(some 27), (.mv (.s 26)), none, none⟩,
  ⟨(some 28), (.mv (.s 8)), (some (27, true)), none⟩,
  ⟨(some 29), (.bin .lss (.s 28) (.c (.int .i64 (20)))), (some (27, true)), none⟩,
  ⟨(some 30), (.pick (.s 27) (.s 29) (.c (.bool false))), none, none⟩])
 (.cond (.s 30)
 .skip
 (.exit 0)))
 (.seqj [0, 1, 5, 6, 7, 8]
 (.block 1
 (.reg [⟨(some 33), (.mv (.s 6)), none, none⟩,
  ⟨(some 34), (.mv (.s 5)), none, none⟩,
  ⟨(some 35), (.mv (.s 0)), none, none⟩,
  ⟨(some 36), (.mv (.s 8)), none, none⟩,
  ⟨(some 37), (.iaddrS 1 (.s 35) (.s 36)), none, none⟩,
  ⟨(some 38), (.load1 (.s 37)), none, none⟩,
  ⟨(some 39), (.call 13 [(.s 38), (.c (.int .i64 (7)))]), none, none⟩,
  ⟨(some 40), (.iaddrS 1 (.s 34) (.s 39)), none, none⟩,
  ⟨(some 41), (.load1 (.s 40)), none, none⟩,
  ⟨(some 42), (.bin .add (.s 33) (.s 41)), none, none⟩,
  ⟨(some 6), (.mv (.s 42)), none, none⟩]))
 (.reg [⟨(some 31), (.mv (.s 8)), none, none⟩,
  ⟨(some 32), (.bin .add (.s 31) (.c (.int .i64 (1)))), none, none⟩,
  ⟨(some 8), (.mv (.s 32)), none, none⟩]))))))
 (.seqj [6, 7]
 (.seq
 (.reg [⟨(some 9), (.mv (.c (.int .i64 (0)))), none, none⟩])
 (.block 2
 (.loop [1, 5, 6, 7, 9]
 (.seqj [1, 5, 6, 7, 9]
 (.seq
 (.reg [⟨(some 43), (.mv (.s 9)), none, none⟩,
  ⟨(some 44), (.mv (.s 1)), none, none⟩,
  ⟨(some 45), (.lenL (.s 44)), none, none⟩,
  ⟨(some 46), (.bin .lss (.s 43) (.s 45)), none, none⟩,
  ⟨(some 47), (.mv (.s 46)), none, none⟩,
  ⟨(some 48), (.mv (.s 9)), (some (47, true)), none⟩,
  ⟨(some 49), (.bin .lss (.s 48) (.c (.int .i64 (20)))), (some (47, true)), none⟩,
  ⟨(some 50), (.pick (.s 47) (.s 49) (.c (.bool false))), none, none⟩])
 (.cond (.s 50)
 .skip
 (.exit 2)))
 (.seqj [1, 5, 6, 7, 9]
 (.block 3
 (.reg [⟨(some 53), (.mv (.s 7)), none, none⟩,
  ⟨(some 54), (.mv (.s 5)), none, none⟩,
  ⟨(some 55), (.mv (.s 1)), none, none⟩,
  ⟨(some 56), (.mv (.s 9)), none, none⟩,
  ⟨(some 57), (.iaddrS 1 (.s 55) (.s 56)), none, none⟩,
  ⟨(some 58), (.load1 (.s 57)), none, none⟩,
  ⟨(some 59), (.call 13 [(.s 58), (.c (.int .i64 (7)))]), none, none⟩,
  ⟨(some 60), (.iaddrS 1 (.s 54) (.s 59)), none, none⟩,
  ⟨(some 61), (.load1 (.s 60)), none, none⟩,
  ⟨(some 62), (.bin .add (.s 53) (.s 61)), none, none⟩,
  ⟨(some 7), (.mv (.s 62)), none, none⟩]))
 (.reg [⟨(some 51), (.mv (.s 9)), none, none⟩,
  ⟨(some 52), (.bin .add (.s 51) (.c (.int .i64 (1)))), none, none⟩,
  ⟨(some 9), (.mv (.s 52)), none, none⟩]))))))
 (.seq
 (.reg [⟨(some 64), (.mv (.s 6)), none, none⟩,
  ⟨(some 65), (.call 11 [(.s 64)]), none, none⟩,
  ⟨(some 63), (.mv (.s 65)), none, none⟩,
  ⟨(some 66), (.ext 0 (.s 63)), none, none⟩,
  ⟨(some 67), (.ext 1 (.s 63)), none, none⟩,
  ⟨(some 10), (.mv (.s 66)), none, none⟩,
  ⟨(some 11), (.mv (.s 67)), none, none⟩])
 (.seq
 (.reg [⟨(some 69), (.mv (.s 7)), none, none⟩,
  ⟨(some 70), (.call 11 [(.s 69)]), none, none⟩,
  ⟨(some 68), (.mv (.s 70)), none, none⟩,
  ⟨(some 71), (.ext 0 (.s 68)), none, none⟩,
  ⟨(some 72), (.ext 1 (.s 68)), none, none⟩,
  ⟨(some 12), (.mv (.s 71)), none, none⟩,
  ⟨(some 13), (.mv (.s 72)), none, none⟩])
 (.seq
 (.reg [⟨(some 74), (.mv (.s 6)), none, none⟩,
  ⟨(some 75), (.mv (.s 7)), none, none⟩,
  ⟨(some 76), (.bin .add (.s 74) (.s 75)), none, none⟩,
  ⟨(some 77), (.call 11 [(.s 76)]), none, none⟩,
  ⟨(some 73), (.mv (.s 77)), none, none⟩,
  ⟨(some 78), (.ext 0 (.s 73)), none, none⟩,
  ⟨(some 79), (.ext 1 (.s 73)), none, none⟩,
  ⟨(some 14), (.mv (.s 78)), none, none⟩,
  ⟨(some 15), (.mv (.s 79)), none, none⟩])
 (.seqj [6, 10, 12, 14]
 (.seq
 (.reg [⟨(some 80), (.mv (.s 11)), none, none⟩,
  ⟨(some 81), (.eq (.one .i) true (.s 80) (.c (.int .i64 (0)))), none, none⟩,
  ⟨(some 82), (.mv (.s 81)), none, none⟩,
  ⟨(some 83), (.mv (.s 13)), (some (82, false)), none⟩,
  ⟨(some 84), (.eq (.one .i) true (.s 83) (.c (.int .i64 (0)))), (some (82, false)), none⟩,
  ⟨(some 85), (.pick (.s 82) (.c (.bool true)) (.s 84)), none, none⟩,
  ⟨(some 86), (.mv (.s 85)), none, none⟩,
  ⟨(some 87), (.mv (.s 15)), (some (86, false)), none⟩,
  ⟨(some 88), (.eq (.one .i) true (.s 87) (.c (.int .i64 (0)))), (some (86, false)), none⟩,
  ⟨(some 89), (.pick (.s 86) (.c (.bool true)) (.s 88)), none, none⟩])
 (.cond (.s 89)
 (.seq
 (.reg [⟨(some 4), (.mv (.c (.bool false))), none, none⟩])
 .ret)
 .skip))
 (.seq
 (.reg [⟨(some 90), (.mv (.s 10)), none, none⟩,
  ⟨(some 91), (.lenL (.s 90)), none, none⟩,
  ⟨(some 92), (.bin .gtr (.s 91) (.c (.int .i64 (0)))), none, none⟩,
  ⟨(some 93), (.mv (.s 92)), none, none⟩,
  ⟨(some 94), (.mv (.s 12)), (some (93, true)), none⟩,
  ⟨(some 95), (.lenL (.s 94)), (some (93, true)), none⟩,
  ⟨(some 96), (.bin .gtr (.s 95) (.c (.int .i64 (0)))), (some (93, true)), none⟩,
  ⟨(some 97), (.pick (.s 93) (.s 96) (.c (.bool false))), none, none⟩,
  ⟨(some 98), (.mv (.s 97)), none, none⟩,
  ⟨(some 99), (.mv (.s 10)), (some (98, true)), none⟩,
  ⟨(some 100), (.mv (.s 10)), (some (98, true)), none⟩,
  ⟨(some 101), (.lenL (.s 100)), (some (98, true)), none⟩,
  ⟨(some 102), (.bin .sub (.s 101) (.c (.int .i64 (1)))), (some (98, true)), none⟩,
  ⟨(some 103), (.iaddrS 3 (.s 99) (.s 102)), (some (98, true)), none⟩,
  ⟨(some 104), (.faddr 0 (.s 103)), (some (98, true)), none⟩,
  ⟨(some 105), (.load1 (.s 104)), (some (98, true)), none⟩,
  ⟨(some 106), (.not (.s 105)), (some (98, true)), none⟩,
  ⟨(some 107), (.pick (.s 98) (.s 106) (.c (.bool false))), none, none⟩,
  ⟨(some 108), (.mv (.s 107)), none, none⟩,
  ⟨(some 109), (.mv (.s 12)), (some (108, true)), none⟩,
  ⟨(some 110), (.iaddrS 3 (.s 109) (.c (.int .i64 (0)))), (some (108, true)), none⟩,
  ⟨(some 111), (.faddr 0 (.s 110)), (some (108, true)), none⟩,
  ⟨(some 112), (.load1 (.s 111)), (some (108, true)), none⟩,
  ⟨(some 113), (.not (.s 112)), (some (108, true)), none⟩,
  ⟨(some 114), (.pick (.s 108) (.s 113) (.c (.bool false))), none, none⟩,
  ⟨(some 16), (.mv (.s 114)), none, none⟩])
 (.seq
 (.reg [⟨(some 115), (.mv (.s 10)), none, none⟩,
  ⟨(some 116), (.lenL (.s 115)), none, none⟩,
  ⟨(some 117), (.mv (.s 12)), none, none⟩,
  ⟨(some 118), (.lenL (.s 117)), none, none⟩,
  ⟨(some 119), (.bin .add (.s 116) (.s 118)), none, none⟩,
  ⟨(some 17), (.mv (.s 119)), none, none⟩])
 (.seqj [6, 10, 12, 14, 16, 17]
 (.seq
 (.reg [⟨(some 120), (.mv (.s 16)), none, none⟩])
 (.cond (.s 120)
 (.reg [⟨(some 121), (.mv (.s 17)), none, none⟩,
  ⟨(some 122), (.bin .sub (.s 121) (.c (.int .i64 (1)))), none, none⟩,
  ⟨(some 17), (.mv (.s 122)), none, none⟩])
 .skip))
 (.seqj [6, 10, 12, 14, 16, 17]
 (.seq
 (.reg [⟨(some 123), (.mv (.s 14)), none, none⟩,
  ⟨(some 124), (.lenL (.s 123)), none, none⟩,
  ⟨(some 125), (.mv (.s 17)), none, none⟩,
  ⟨(some 126), (.eq (.one .i) true (.s 124) (.s 125)), none, none⟩])
 (.cond (.s 126)
 (.seq
 (.reg [⟨(some 4), (.mv (.c (.bool false))), none, none⟩])
 .ret)
 .skip))
 (.seqj []
 (.seq
 (.reg [⟨(some 18), (.mv (.c (.int .i64 (0)))), none, none⟩])
 (.block 4
 (.loop [6, 10, 12, 14, 16, 17, 18]
 (.seqj [6, 10, 12, 14, 16, 17, 18]
 (.seq
 (.reg [⟨(some 127), (.mv (.s 18)), none, none⟩,
  ⟨(some 128), (.mv (.s 12)), none, none⟩,
  ⟨(some 129), (.lenL (.s 128)), none, none⟩,
  ⟨(some 130), (.bin .lss (.s 127) (.s 129)), none, none⟩])
 (.cond (.s 130)
 .skip
 (.exit 4)))
 (.seqj [6, 10, 12, 14, 16, 17, 18]
 (.block 5
 (.seq
 (.reg [⟨(some 133), (.mv (.s 14)), none, none⟩,
  ⟨(some 134), (.mv (.s 17)), none, none⟩,
  ⟨(some 135), (.mv (.s 12)), none, none⟩,
  ⟨(some 136), (.lenL (.s 135)), none, none⟩,
  ⟨(some 137), (.bin .sub (.s 134) (.s 136)), none, none⟩,
  ⟨(some 138), (.mv (.s 18)), none, none⟩,
  ⟨(some 139), (.bin .add (.s 137) (.s 138)), none, none⟩,
  ⟨(some 140), (.iaddrS 3 (.s 133) (.s 139)), none, none⟩,
  ⟨(some 141), (.loadn 3 (.s 140)), none, none⟩,
  ⟨(some 19), (.alloc [(.bool false), (ofL []), (.int .i64 (0))]), none, none⟩,
  ⟨none, (.store 3 (.s 19) (.s 141)), none, none⟩])
 (.seqj [6, 10, 12, 14, 16, 17, 18, 19]
 (.seq
 (.reg [⟨(some 142), (.mv (.s 18)), none, none⟩,
  ⟨(some 143), (.eq (.one .i) false (.s 142) (.c (.int .i64 (0)))), none, none⟩,
  ⟨(some 144), (.mv (.s 143)), none, none⟩,
  ⟨(some 145), (.mv (.s 16)), (some (144, true)), none⟩,
  ⟨(some 146), (.pick (.s 144) (.s 145) (.c (.bool false))), none, none⟩])
 (.cond (.s 146)
 (.seqj [6, 10, 12, 14, 16, 17, 18]
 (.seq
 (.drw [⟨(some 147), (.faddr 0 (.s 19)), none, none⟩,
  ⟨(some 148), (.load1 (.s 147)), none, none⟩,
  ⟨(some 149), (.mv (.s 148)), none, none⟩,
  ⟨(some 150), (.faddr 1 (.s 19)), (some (149, false)), none⟩,
  ⟨(some 151), (.load1 (.s 150)), (some (149, false)), none⟩,
  ⟨(some 152), (.mv (.s 10)), (some (149, false)), none⟩,
  ⟨(some 153), (.mv (.s 10)), (some (149, false)), none⟩,
  ⟨(some 154), (.lenL (.s 153)), (some (149, false)), none⟩,
  ⟨(some 155), (.bin .sub (.s 154) (.c (.int .i64 (1)))), (some (149, false)), none⟩,
  ⟨(some 156), (.iaddrS 3 (.s 152) (.s 155)), (some (149, false)), none⟩,
  ⟨(some 157), (.faddr 1 (.s 156)), (some (149, false)), none⟩,
  ⟨(some 158), (.load1 (.s 157)), (some (149, false)), none⟩,
  ⟨(some 159), (.mv (.s 12)), (some (149, false)), none⟩,
  ⟨(some 160), (.iaddrS 3 (.s 159) (.c (.int .i64 (0)))), (some (149, false)), none⟩,
  ⟨(some 161), (.faddr 1 (.s 160)), (some (149, false)), none⟩,
  ⟨(some 162), (.load1 (.s 161)), (some (149, false)), none⟩,
  ⟨(some 163), (.bin .add (.s 158) (.s 162)), (some (149, false)), none⟩,
  ⟨(some 164), (.eq (.one .s) true (.s 151) (.s 163)), (some (149, false)), none⟩,
  ⟨(some 165), (.pick (.s 149) (.c (.bool true)) (.s 164)), none, none⟩] [])
 (.cond (.s 165)
 (.seq
 (.reg [⟨(some 4), (.mv (.c (.bool false))), none, none⟩])
 .ret)
 .skip))
 (.exit 5))
 .skip))
 (.seq
 (.drw [⟨(some 166), (.faddr 0 (.s 19)), none, none⟩,
  ⟨(some 167), (.load1 (.s 166)), none, none⟩,
  ⟨(some 168), (.mv (.s 12)), none, none⟩,
  ⟨(some 169), (.mv (.s 18)), none, none⟩,
  ⟨(some 170), (.iaddrS 3 (.s 168) (.s 169)), none, none⟩,
  ⟨(some 171), (.faddr 0 (.s 170)), none, none⟩,
  ⟨(some 172), (.load1 (.s 171)), none, none⟩,
  ⟨(some 173), (.eq (.one .b) true (.s 167) (.s 172)), none, none⟩,
  ⟨(some 174), (.mv (.s 173)), none, none⟩,
  ⟨(some 175), (.faddr 1 (.s 19)), (some (174, false)), none⟩,
  ⟨(some 176), (.load1 (.s 175)), (some (174, false)), none⟩,
  ⟨(some 177), (.mv (.s 12)), (some (174, false)), none⟩,
  ⟨(some 178), (.mv (.s 18)), (some (174, false)), none⟩,
  ⟨(some 179), (.iaddrS 3 (.s 177) (.s 178)), (some (174, false)), none⟩,
  ⟨(some 180), (.faddr 1 (.s 179)), (some (174, false)), none⟩,
  ⟨(some 181), (.load1 (.s 180)), (some (174, false)), none⟩,
  ⟨(some 182), (.eq (.one .s) true (.s 176) (.s 181)), (some (174, false)), none⟩,
  ⟨(some 183), (.pick (.s 174) (.c (.bool true)) (.s 182)), none, none⟩,
  ⟨(some 184), (.mv (.s 183)), none, none⟩,
  ⟨(some 185), (.faddr 2 (.s 19)), (some (184, false)), none⟩,
  ⟨(some 186), (.load1 (.s 185)), (some (184, false)), none⟩,
  ⟨(some 187), (.mv (.s 12)), (some (184, false)), none⟩,
  ⟨(some 188), (.mv (.s 18)), (some (184, false)), none⟩,
  ⟨(some 189), (.iaddrS 3 (.s 187) (.s 188)), (some (184, false)), none⟩,
  ⟨(some 190), (.faddr 2 (.s 189)), (some (184, false)), none⟩,
  ⟨(some 191), (.load1 (.s 190)), (some (184, false)), none⟩,
  ⟨(some 192), (.mv (.s 6)), (some (184, false)), none⟩,
  ⟨(some 193), (.lenS (.s 192)), (some (184, false)), none⟩,
  ⟨(some 194), (.bin .add (.s 191) (.s 193)), (some (184, false)), none⟩,
  ⟨(some 195), (.eq (.one .i) true (.s 186) (.s 194)), (some (184, false)), none⟩,
  ⟨(some 196), (.pick (.s 184) (.c (.bool true)) (.s 195)), none, none⟩] [])
 (.cond (.s 196)
 (.seq
 (.reg [⟨(some 4), (.mv (.c (.bool false))), none, none⟩])
 .ret)
 .skip)))))
 (.reg [⟨(some 131), (.mv (.s 18)), none, none⟩,
  ⟨(some 132), (.bin .add (.s 131) (.c (.int .i64 (1)))), none, none⟩,
  ⟨(some 18), (.mv (.s 132)), none, none⟩]))))))
 (.seq
 (.reg [⟨(some 4), (.mv (.c (.bool true))), none, none⟩])
 .ret)))))))))))))))) }
theorem cf6_ok : compFn Try.prog Try.f6 [[0, 1], [1, 5, 6, 7], [0, 1, 5, 6, 7, 8], [0, 1, 5, 6, 7, 8], [0, 1, 5, 6, 7, 8], [6, 7], [1, 5, 6, 7, 9], [1, 5, 6, 7, 9], [1, 5, 6, 7, 9], [6, 10, 12, 14], [6, 10, 12, 14, 16, 17], [6, 10, 12, 14, 16, 17], [], [6, 10, 12, 14, 16, 17, 18], [6, 10, 12, 14, 16, 17, 18], [6, 10, 12, 14, 16, 17, 18], [6, 10, 12, 14, 16, 17, 18, 19], [6, 10, 12, 14, 16, 17, 18]] = some cf6 := by kernel_rfl
noncomputable def tabD : BT :=
  (.node 12 (.node 8 (.node 6 (.node 3 (.leaf 3 (fnD 1000000 cf3))
  (.leaf 6 (fnD 1000000 cf6)))
  (.node 7 (.leaf 7 (fnD 1000000 cf7))
  (.leaf 8 (fnD 1000000 cf8))))
  (.node 10 (.node 9 (.leaf 9 (hookE trueG))
  (.leaf 10 (fnD 1000000 cf10)))
  (.node 11 (.leaf 11 (fnD 1000000 cf11))
  (.leaf 12 (fnD 1000000 cf12)))))
  (.node 16 (.node 14 (.node 13 (.leaf 13 (fnD 1000000 cf13))
  (.leaf 14 (fnD 1000000 cf14)))
  (.node 15 (.leaf 15 (fnD 1000000 cf15))
  (.leaf 16 (hookE indexG))))
  (.node 18 (.node 17 (.leaf 17 (fnD 1000000 cf17))
  (.leaf 18 (fnD 1000000 cf18)))
  (.node 20 (.leaf 20 (fnD 1000000 cf20))
  (.leaf 25 (fnD 1000000 cf25))))))
theorem at3 : tabT tabD 3 = some (evFn 1000000 cf3) := by kernel_rfl
theorem at6 : tabT tabD 6 = some (evFn 1000000 cf6) := by kernel_rfl
theorem at7 : tabT tabD 7 = some (evFn 1000000 cf7) := by kernel_rfl
theorem at8 : tabT tabD 8 = some (evFn 1000000 cf8) := by kernel_rfl
theorem at9 : tabT tabD 9 = some (hookE trueG).b := by kernel_rfl
theorem at10 : tabT tabD 10 = some (evFn 1000000 cf10) := by kernel_rfl
theorem at11 : tabT tabD 11 = some (evFn 1000000 cf11) := by kernel_rfl
theorem at12 : tabT tabD 12 = some (evFn 1000000 cf12) := by kernel_rfl
theorem at13 : tabT tabD 13 = some (evFn 1000000 cf13) := by kernel_rfl
theorem at14 : tabT tabD 14 = some (evFn 1000000 cf14) := by kernel_rfl
theorem at15 : tabT tabD 15 = some (evFn 1000000 cf15) := by kernel_rfl
theorem at16 : tabT tabD 16 = some (hookE indexG).b := by kernel_rfl
theorem at17 : tabT tabD 17 = some (evFn 1000000 cf17) := by kernel_rfl
theorem at18 : tabT tabD 18 = some (evFn 1000000 cf18) := by kernel_rfl
theorem at20 : tabT tabD 20 = some (evFn 1000000 cf20) := by kernel_rfl
theorem at25 : tabT tabD 25 = some (evFn 1000000 cf25) := by kernel_rfl
theorem tabD_B {ρ : Nat → Value} {W : World} (hρ : ∀ i, (ρ i).oneCell' = true) (hm : hasM 0 W) : tabD.all fun i e => BodyOK Try.prog ρ ⟨W.heap.size, W⟩ i e.b :=
  ⟨⟨⟨⟨fnD_B cf3_ok Try.func3 (by decide) hρ mixed, fnD_B cf6_ok Try.func6 (by decide) hρ mixed⟩, ⟨fnD_B cf7_ok Try.func7 (by decide) hρ mixed, fnD_B cf8_ok Try.func8 (by decide) hρ mixed⟩⟩, ⟨⟨trueE_B Try.func9 (by kernel_rfl) (by decide) hm known_calls, fnD_B cf10_ok Try.func10 (by decide) hρ mixed⟩, ⟨fnD_B cf11_ok Try.func11 (by decide) hρ mixed, fnD_B cf12_ok Try.func12 (by decide) hρ mixed⟩⟩⟩, ⟨⟨⟨fnD_B cf13_ok Try.func13 (by decide) hρ mixed, fnD_B cf14_ok Try.func14 (by decide) hρ mixed⟩, ⟨fnD_B cf15_ok Try.func15 (by decide) hρ mixed, indexE_B Try.func16 (by kernel_rfl) (by decide) hm fun s sub m w hs hm => Try.strings_Index s sub m w hs hm⟩⟩, ⟨⟨fnD_B cf17_ok Try.func17 (by decide) hρ mixed, fnD_B cf18_ok Try.func18 (by decide) hρ mixed⟩, ⟨fnD_B cf20_ok Try.func20 (by decide) hρ mixed, fnD_B cf25_ok Try.func25 (by decide) hρ mixed⟩⟩⟩⟩
end Go.Proofs.Ytfcdghdipkgpfaa
