/- The code of functions, as the evaluator has it; a table of them. No condition. -/
import Derived.Test.YtpaodecpdbjfbaaDoorRows
import Derived.Test.YtpaodecpdbjfbaaDoorShelf
import Derived.WalkKit
import Derived.Test.YtpaodecpdbjfbaaDoorEvd8
import Derived.Test.YtpaodecpdbjfbaaDoorKnown
namespace Go.Proofs.YtpaodecpdbjfbaaDoor
open Eva Go.RowKit
set_option maxRecDepth 100000
/- sprue/spruelaw12.DiagWords -/
def cf4 : Eva.Fn := { ntmps := 42, res := [(.s 4)], body :=
 (.seq
 (.reg [⟨(some 4), (.mv (.c (.bool false))), none, none⟩])
 (.seqj [0, 1]
 (.seq
 (.reg [⟨(some 9), (.call 5 []), none, none⟩,
  ⟨(some 10), (.not (.s 9)), none, none⟩])
 (.cond (.s 10)
 (.seq
 (.reg [⟨(some 4), (.mv (.c (.bool false))), none, none⟩])
 .ret)
 .skip))
 (.seqj [0, 1]
 (.seq
 (.reg [⟨(some 11), (.mv (.s 1)), none, none⟩,
  ⟨(some 12), (.lenS (.s 11)), none, none⟩,
  ⟨(some 13), (.bin .gtr (.s 12) (.c (.int .i64 (30)))), none, none⟩])
 (.cond (.s 13)
 (.seq
 (.reg [⟨(some 4), (.mv (.c (.bool true))), none, none⟩])
 .ret)
 .skip))
 (.seq
 (.reg [⟨(some 14), (.bsl 1 10 [(.int .i64 (0)), (.int .i64 (0)), (.int .i64 (0)), (.int .i64 (0)), (.int .i64 (0)), (.int .i64 (0)), (.int .i64 (0)), (.int .i64 (0)), (.int .i64 (0)), (.int .i64 (0))] [(0, 1, (.c (.int .i64 (11)))), (1, 1, (.c (.int .i64 (12)))), (2, 1, (.c (.int .i64 (13)))), (3, 1, (.c (.int .i64 (14)))), (4, 1, (.c (.int .i64 (15)))), (5, 1, (.c (.int .i64 (16)))), (6, 1, (.c (.int .i64 (17)))), (7, 1, (.c (.int .i64 (18)))), (8, 1, (.c (.int .i64 (19)))), (9, 1, (.c (.int .i64 (20))))]), none, none⟩,
  ⟨(some 5), (.mv (.s 14)), none, none⟩])
 (.seq
 (.reg [⟨(some 15), (.bsl 1 10 [(ofL []), (ofL []), (ofL []), (ofL []), (ofL []), (ofL []), (ofL []), (ofL []), (ofL []), (ofL [])] [(0, 1, (.c (ofL [116, 111, 107, 101, 110]))), (1, 1, (.c (ofL [102, 111, 114, 109]))), (2, 1, (.c (ofL [100, 101, 101, 112]))), (3, 1, (.c (ofL [108, 111, 111, 112]))), (4, 1, (.c (ofL [110, 97, 109, 101]))), (5, 1, (.c (ofL [102, 105, 101, 108, 100]))), (6, 1, (.c (ofL [116, 121, 112, 101]))), (7, 1, (.c (ofL [97, 114, 103, 115]))), (8, 1, (.c (ofL [99, 97, 115, 101]))), (9, 1, (.c (ofL [98, 105, 103])))]), none, none⟩,
  ⟨(some 6), (.mv (.s 15)), none, none⟩])
 (.seq
 (.reg [⟨(some 16), (.mv (.s 0)), none, none⟩,
  ⟨(some 17), (.call 6 [(.s 16), (.c (.int .i64 (10)))]), none, none⟩,
  ⟨(some 7), (.mv (.s 17)), none, none⟩])
 (.seq
 (.reg [⟨(some 18), (.mv (.s 6)), none, none⟩,
  ⟨(some 19), (.mv (.s 7)), none, none⟩,
  ⟨(some 20), (.iaddrS 1 (.s 18) (.s 19)), none, none⟩,
  ⟨(some 21), (.load1 (.s 20)), none, none⟩,
  ⟨(some 22), (.bin .add (.c (ofL [49, 58, 49, 58, 32])) (.s 21)), none, none⟩,
  ⟨(some 8), (.mv (.s 22)), none, none⟩])
 (.seqj [1, 5, 7, 8]
 (.seq
 (.reg [⟨(some 23), (.mv (.s 1)), none, none⟩,
  ⟨(some 24), (.eq (.one .s) true (.s 23) (.c (ofL []))), none, none⟩])
 (.cond (.s 24)
 (.reg [⟨(some 25), (.mv (.s 1)), none, none⟩,
  ⟨(some 26), (.bin .add (.c (ofL [49, 58, 49, 58, 32])) (.s 25)), none, none⟩,
  ⟨(some 27), (.bin .add (.s 26) (.c (ofL [58, 32]))), none, none⟩,
  ⟨(some 28), (.mv (.s 6)), none, none⟩,
  ⟨(some 29), (.mv (.s 7)), none, none⟩,
  ⟨(some 30), (.iaddrS 1 (.s 28) (.s 29)), none, none⟩,
  ⟨(some 31), (.load1 (.s 30)), none, none⟩,
  ⟨(some 32), (.bin .add (.s 27) (.s 31)), none, none⟩,
  ⟨(some 8), (.mv (.s 32)), none, none⟩])
 .skip))
 (.seq
 (.reg [⟨(some 33), (.mv (.s 5)), none, none⟩,
  ⟨(some 34), (.mv (.s 7)), none, none⟩,
  ⟨(some 35), (.iaddrS 1 (.s 33) (.s 34)), none, none⟩,
  ⟨(some 36), (.load1 (.s 35)), none, none⟩,
  ⟨(some 37), (.mv (.s 1)), none, none⟩,
  ⟨(some 38), (.build [(.int .i64 (0)), (ofL []), (.int .i64 (0))] [(0, 1, (.s 36)), (1, 1, (.s 37))]), none, none⟩,
  ⟨(some 39), (.call 7 [(.c (ofL [97, 98, 99])), (.s 38)]), none, none⟩,
  ⟨(some 40), (.mv (.s 8)), none, none⟩,
  ⟨(some 41), (.eq (.one .s) false (.s 39) (.s 40)), none, none⟩,
  ⟨(some 4), (.mv (.s 41)), none, none⟩])
 .ret))))))))) }
theorem cf4_ok : compFn Tryd.prog Tryd.f4 [[0, 1], [0, 1], [1, 5, 7, 8]] = some cf4 := by kernel_rfl
/- sprue/diag.Text -/
def cf7 : Eva.Fn := { ntmps := 41, res := [(.s 4)], body :=
 (.seq
 (.reg [⟨(some 3), (.box (.s 1)), none, none⟩,
  ⟨(some 4), (.mv (.c (ofL []))), none, none⟩])
 (.seqj [0, 3]
 (.seq
 (.reg [⟨(some 8), (.faddr 0 (.s 3)), none, none⟩,
  ⟨(some 9), (.load1 (.s 8)), none, none⟩,
  ⟨(some 10), (.eq (.one .i) false (.s 9) (.c (.int .i64 (0)))), none, none⟩])
 (.cond (.s 10)
 (.seq
 (.reg [⟨(some 11), (.faddr 0 (.s 3)), none, none⟩,
  ⟨(some 12), (.load1 (.s 11)), none, none⟩,
  ⟨(some 13), (.call 11 [(.s 12)]), none, none⟩,
  ⟨(some 4), (.mv (.s 13)), none, none⟩])
 .ret)
 .skip))
 (.seq
 (.reg [⟨(some 15), (.mv (.s 0)), none, none⟩,
  ⟨(some 16), (.faddr 2 (.s 3)), none, none⟩,
  ⟨(some 17), (.load1 (.s 16)), none, none⟩,
  ⟨(some 18), (.call 12 [(.s 15), (.s 17)]), none, none⟩,
  ⟨(some 14), (.mv (.s 18)), none, none⟩,
  ⟨(some 19), (.ext 0 (.s 14)), none, none⟩,
  ⟨(some 20), (.ext 1 (.s 14)), none, none⟩,
  ⟨(some 5), (.mv (.s 19)), none, none⟩,
  ⟨(some 6), (.mv (.s 20)), none, none⟩])
 (.seq
 (.reg [⟨(some 21), (.mv (.s 5)), none, none⟩,
  ⟨(some 22), (.call 13 [(.s 21)]), none, none⟩,
  ⟨(some 23), (.bin .add (.s 22) (.c (ofL [58]))), none, none⟩,
  ⟨(some 24), (.mv (.s 6)), none, none⟩,
  ⟨(some 25), (.call 13 [(.s 24)]), none, none⟩,
  ⟨(some 26), (.bin .add (.s 23) (.s 25)), none, none⟩,
  ⟨(some 27), (.bin .add (.s 26) (.c (ofL [58, 32]))), none, none⟩,
  ⟨(some 7), (.mv (.s 27)), none, none⟩])
 (.seqj [3, 7]
 (.seq
 (.reg [⟨(some 28), (.faddr 1 (.s 3)), none, none⟩,
  ⟨(some 29), (.load1 (.s 28)), none, none⟩,
  ⟨(some 30), (.eq (.one .s) true (.s 29) (.c (ofL []))), none, none⟩])
 (.cond (.s 30)
 (.reg [⟨(some 31), (.mv (.s 7)), none, none⟩,
  ⟨(some 32), (.faddr 1 (.s 3)), none, none⟩,
  ⟨(some 33), (.load1 (.s 32)), none, none⟩,
  ⟨(some 34), (.bin .add (.s 33) (.c (ofL [58, 32]))), none, none⟩,
  ⟨(some 35), (.bin .add (.s 31) (.s 34)), none, none⟩,
  ⟨(some 7), (.mv (.s 35)), none, none⟩])
 .skip))
 (.seq
 (.reg [⟨(some 36), (.mv (.s 7)), none, none⟩,
  ⟨(some 37), (.faddr 0 (.s 3)), none, none⟩,
  ⟨(some 38), (.load1 (.s 37)), none, none⟩,
  ⟨(some 39), (.call 11 [(.s 38)]), none, none⟩,
  ⟨(some 40), (.bin .add (.s 36) (.s 39)), none, none⟩,
  ⟨(some 4), (.mv (.s 40)), none, none⟩])
 .ret)))))) }
theorem cf7_ok : compFn Tryd.prog Tryd.f7 [[0, 3], [3, 7]] = some cf7 := by kernel_rfl
/- (sprue/api.Errno).Error -/
def cf11 : Eva.Fn := { ntmps := 15, res := [(.s 2)], body :=
 (.seq
 (.reg [⟨(some 2), (.mv (.c (ofL []))), none, none⟩])
 (.seqj [0]
 (.block 0
 (.seq
 (.reg [⟨(some 4), (.mv (.s 0)), none, none⟩,
  ⟨(some 5), (.bin .lss (.s 4) (.c (.int .i64 (11)))), none, none⟩,
  ⟨(some 3), (.mv (.s 5)), none, none⟩])
 (.cond (.s 3)
 (.seq
 (.reg [⟨(some 6), (.mv (.s 0)), none, none⟩,
  ⟨(some 7), (.call 15 [(.s 6)]), none, none⟩,
  ⟨(some 2), (.mv (.s 7)), none, none⟩])
 .ret)
 (.seq
 (.reg [⟨(some 9), (.mv (.s 0)), none, none⟩,
  ⟨(some 10), (.bin .lss (.s 9) (.c (.int .i64 (31)))), none, none⟩,
  ⟨(some 8), (.mv (.s 10)), none, none⟩])
 (.cond (.s 8)
 (.seq
 (.reg [⟨(some 11), (.mv (.s 0)), none, none⟩,
  ⟨(some 12), (.call 16 [(.s 11)]), none, none⟩,
  ⟨(some 2), (.mv (.s 12)), none, none⟩])
 .ret)
 .skip)))))
 (.seq
 (.reg [⟨(some 13), (.mv (.s 0)), none, none⟩,
  ⟨(some 14), (.call 17 [(.s 13)]), none, none⟩,
  ⟨(some 2), (.mv (.s 14)), none, none⟩])
 .ret))) }
theorem cf11_ok : compFn Tryd.prog Tryd.f11 [[0]] = some cf11 := by kernel_rfl
/- sprue/api.early -/
def cf15 : Eva.Fn := { ntmps := 18, res := [(.s 2)], body :=
 (.seq
 (.reg [⟨(some 2), (.mv (.c (ofL []))), none, none⟩])
 (.seqj []
 (.seq
 (.reg [⟨(some 3), (.mv (.s 0)), none, none⟩])
 (.block 0
 (.seq
 (.reg [⟨(some 5), (.eq (.one .i) false (.s 3) (.c (.int .i64 (0)))), none, none⟩,
  ⟨(some 4), (.mv (.s 5)), none, none⟩])
 (.cond (.s 4)
 (.seq
 (.reg [⟨(some 2), (.mv (.c (ofL [111, 107]))), none, none⟩])
 .ret)
 (.seq
 (.reg [⟨(some 7), (.eq (.one .i) false (.s 3) (.c (.int .i64 (1)))), none, none⟩,
  ⟨(some 6), (.mv (.s 7)), none, none⟩])
 (.cond (.s 6)
 (.seq
 (.reg [⟨(some 2), (.mv (.c (ofL [97, 114, 103]))), none, none⟩])
 .ret)
 (.seq
 (.reg [⟨(some 9), (.eq (.one .i) false (.s 3) (.c (.int .i64 (2)))), none, none⟩,
  ⟨(some 8), (.mv (.s 9)), none, none⟩])
 (.cond (.s 8)
 (.seq
 (.reg [⟨(some 2), (.mv (.c (ofL [110, 111, 110, 101]))), none, none⟩])
 .ret)
 (.seq
 (.reg [⟨(some 11), (.eq (.one .i) false (.s 3) (.c (.int .i64 (3)))), none, none⟩,
  ⟨(some 10), (.mv (.s 11)), none, none⟩])
 (.cond (.s 10)
 (.seq
 (.reg [⟨(some 2), (.mv (.c (ofL [109, 97, 110, 121]))), none, none⟩])
 .ret)
 (.seq
 (.reg [⟨(some 13), (.eq (.one .i) false (.s 3) (.c (.int .i64 (4)))), none, none⟩,
  ⟨(some 12), (.mv (.s 13)), none, none⟩])
 (.cond (.s 12)
 (.seq
 (.reg [⟨(some 2), (.mv (.c (ofL [108, 111, 110, 103]))), none, none⟩])
 .ret)
 (.seq
 (.reg [⟨(some 15), (.eq (.one .i) false (.s 3) (.c (.int .i64 (5)))), none, none⟩,
  ⟨(some 14), (.mv (.s 15)), none, none⟩])
 (.cond (.s 14)
 (.seq
 (.reg [⟨(some 2), (.mv (.c (ofL [119, 111, 114, 100]))), none, none⟩])
 .ret)
 (.seq
 (.reg [⟨(some 17), (.eq (.one .i) false (.s 3) (.c (.int .i64 (6)))), none, none⟩,
  ⟨(some 16), (.mv (.s 17)), none, none⟩])
 (.cond (.s 16)
 (.seq
 (.reg [⟨(some 2), (.mv (.c (ofL [105, 115]))), none, none⟩])
 .ret)
 .skip))))))))))))))))
 (.seq
 (.reg [⟨(some 2), (.mv (.c (ofL [101, 114, 114, 111, 114]))), none, none⟩])
 .ret))) }
theorem cf15_ok : compFn Tryd.prog Tryd.f15 [[]] = some cf15 := by kernel_rfl
/- sprue/api.middle -/
def cf16 : Eva.Fn := { ntmps := 24, res := [(.s 2)], body :=
 (.seq
 (.reg [⟨(some 2), (.mv (.c (ofL []))), none, none⟩])
 (.seqj []
 (.seq
 (.reg [⟨(some 3), (.mv (.s 0)), none, none⟩])
 (.block 0
 (.seq
 (.reg [⟨(some 5), (.eq (.one .i) false (.s 3) (.c (.int .i64 (11)))), none, none⟩,
  ⟨(some 4), (.mv (.s 5)), none, none⟩])
 (.cond (.s 4)
 (.seq
 (.reg [⟨(some 2), (.mv (.c (ofL [116, 111, 107, 101, 110]))), none, none⟩])
 .ret)
 (.seq
 (.reg [⟨(some 7), (.eq (.one .i) false (.s 3) (.c (.int .i64 (12)))), none, none⟩,
  ⟨(some 6), (.mv (.s 7)), none, none⟩])
 (.cond (.s 6)
 (.seq
 (.reg [⟨(some 2), (.mv (.c (ofL [102, 111, 114, 109]))), none, none⟩])
 .ret)
 (.seq
 (.reg [⟨(some 9), (.eq (.one .i) false (.s 3) (.c (.int .i64 (13)))), none, none⟩,
  ⟨(some 8), (.mv (.s 9)), none, none⟩])
 (.cond (.s 8)
 (.seq
 (.reg [⟨(some 2), (.mv (.c (ofL [100, 101, 101, 112]))), none, none⟩])
 .ret)
 (.seq
 (.reg [⟨(some 11), (.eq (.one .i) false (.s 3) (.c (.int .i64 (14)))), none, none⟩,
  ⟨(some 10), (.mv (.s 11)), none, none⟩])
 (.cond (.s 10)
 (.seq
 (.reg [⟨(some 2), (.mv (.c (ofL [108, 111, 111, 112]))), none, none⟩])
 .ret)
 (.seq
 (.reg [⟨(some 13), (.eq (.one .i) false (.s 3) (.c (.int .i64 (15)))), none, none⟩,
  ⟨(some 12), (.mv (.s 13)), none, none⟩])
 (.cond (.s 12)
 (.seq
 (.reg [⟨(some 2), (.mv (.c (ofL [110, 97, 109, 101]))), none, none⟩])
 .ret)
 (.seq
 (.reg [⟨(some 15), (.eq (.one .i) false (.s 3) (.c (.int .i64 (16)))), none, none⟩,
  ⟨(some 14), (.mv (.s 15)), none, none⟩])
 (.cond (.s 14)
 (.seq
 (.reg [⟨(some 2), (.mv (.c (ofL [102, 105, 101, 108, 100]))), none, none⟩])
 .ret)
 (.seq
 (.reg [⟨(some 17), (.eq (.one .i) false (.s 3) (.c (.int .i64 (17)))), none, none⟩,
  ⟨(some 16), (.mv (.s 17)), none, none⟩])
 (.cond (.s 16)
 (.seq
 (.reg [⟨(some 2), (.mv (.c (ofL [116, 121, 112, 101]))), none, none⟩])
 .ret)
 (.seq
 (.reg [⟨(some 19), (.eq (.one .i) false (.s 3) (.c (.int .i64 (18)))), none, none⟩,
  ⟨(some 18), (.mv (.s 19)), none, none⟩])
 (.cond (.s 18)
 (.seq
 (.reg [⟨(some 2), (.mv (.c (ofL [97, 114, 103, 115]))), none, none⟩])
 .ret)
 (.seq
 (.reg [⟨(some 21), (.eq (.one .i) false (.s 3) (.c (.int .i64 (19)))), none, none⟩,
  ⟨(some 20), (.mv (.s 21)), none, none⟩])
 (.cond (.s 20)
 (.seq
 (.reg [⟨(some 2), (.mv (.c (ofL [99, 97, 115, 101]))), none, none⟩])
 .ret)
 (.seq
 (.reg [⟨(some 23), (.eq (.one .i) false (.s 3) (.c (.int .i64 (20)))), none, none⟩,
  ⟨(some 22), (.mv (.s 23)), none, none⟩])
 (.cond (.s 22)
 (.seq
 (.reg [⟨(some 2), (.mv (.c (ofL [98, 105, 103]))), none, none⟩])
 .ret)
 .skip))))))))))))))))))))))
 (.seq
 (.reg [⟨(some 2), (.mv (.c (ofL [101, 114, 114, 111, 114]))), none, none⟩])
 .ret))) }
theorem cf16_ok : compFn Tryd.prog Tryd.f16 [[]] = some cf16 := by kernel_rfl
/- sprue/api.late -/
def cf17 : Eva.Fn := { ntmps := 16, res := [(.s 2)], body :=
 (.seq
 (.reg [⟨(some 2), (.mv (.c (ofL []))), none, none⟩])
 (.seqj []
 (.seq
 (.reg [⟨(some 3), (.mv (.s 0)), none, none⟩])
 (.block 0
 (.seq
 (.reg [⟨(some 5), (.eq (.one .i) false (.s 3) (.c (.int .i64 (31)))), none, none⟩,
  ⟨(some 4), (.mv (.s 5)), none, none⟩])
 (.cond (.s 4)
 (.seq
 (.reg [⟨(some 2), (.mv (.c (ofL [115, 104, 97, 112, 101]))), none, none⟩])
 .ret)
 (.seq
 (.reg [⟨(some 7), (.eq (.one .i) false (.s 3) (.c (.int .i64 (32)))), none, none⟩,
  ⟨(some 6), (.mv (.s 7)), none, none⟩])
 (.cond (.s 6)
 (.seq
 (.reg [⟨(some 2), (.mv (.c (ofL [105, 110, 100, 101, 120]))), none, none⟩])
 .ret)
 (.seq
 (.reg [⟨(some 9), (.eq (.one .i) false (.s 3) (.c (.int .i64 (33)))), none, none⟩,
  ⟨(some 8), (.mv (.s 9)), none, none⟩])
 (.cond (.s 8)
 (.seq
 (.reg [⟨(some 2), (.mv (.c (ofL [102, 117, 110, 99]))), none, none⟩])
 .ret)
 (.seq
 (.reg [⟨(some 11), (.eq (.one .i) false (.s 3) (.c (.int .i64 (34)))), none, none⟩,
  ⟨(some 10), (.mv (.s 11)), none, none⟩])
 (.cond (.s 10)
 (.seq
 (.reg [⟨(some 2), (.mv (.c (ofL [119, 114, 105, 116, 101]))), none, none⟩])
 .ret)
 (.seq
 (.reg [⟨(some 13), (.eq (.one .i) false (.s 3) (.c (.int .i64 (35)))), none, none⟩,
  ⟨(some 12), (.mv (.s 13)), none, none⟩])
 (.cond (.s 12)
 (.seq
 (.reg [⟨(some 2), (.mv (.c (ofL [100, 101, 112, 116, 104]))), none, none⟩])
 .ret)
 (.seq
 (.reg [⟨(some 15), (.eq (.one .i) false (.s 3) (.c (.int .i64 (36)))), none, none⟩,
  ⟨(some 14), (.mv (.s 15)), none, none⟩])
 (.cond (.s 14)
 (.seq
 (.reg [⟨(some 2), (.mv (.c (ofL [98, 117, 100, 103, 101, 116]))), none, none⟩])
 .ret)
 .skip))))))))))))))
 (.seq
 (.reg [⟨(some 2), (.mv (.c (ofL [101, 114, 114, 111, 114]))), none, none⟩])
 .ret))) }
theorem cf17_ok : compFn Tryd.prog Tryd.f17 [[]] = some cf17 := by kernel_rfl
/- sprue/text.Place -/
def cf12 : Eva.Fn := { ntmps := 33, res := [(.s 4), (.s 5)], body :=
 (.seq
 (.reg [⟨(some 4), (.mv (.c (.int .i64 (0)))), none, none⟩,
  ⟨(some 5), (.mv (.c (.int .i64 (0)))), none, none⟩])
 (.seq
 (.reg [⟨(some 4), (.mv (.c (.int .i64 (1)))), none, none⟩])
 (.seq
 (.reg [⟨(some 9), (.mv (.s 1)), none, none⟩,
  ⟨(some 10), (.max (.s 9) (.c (.int .i64 (0)))), none, none⟩,
  ⟨(some 11), (.mv (.s 0)), none, none⟩,
  ⟨(some 12), (.lenS (.s 11)), none, none⟩,
  ⟨(some 13), (.min (.s 10) (.s 12)), none, none⟩,
  ⟨(some 1), (.mv (.s 13)), none, none⟩])
 (.seq
 (.reg [⟨(some 6), (.mv (.c (.int .i64 (0)))), none, none⟩])
 (.seqj [1, 4, 6]
 (.seq
 (.reg [⟨(some 14), (.mv (.s 0)), none, none⟩,
  ⟨(some 15), (.mv (.s 1)), none, none⟩,
  ⟨(some 16), (.cutS (.s 14) none (some (.s 15))), none, none⟩,
  ⟨(some 17), (.rngS (.s 16)), none, none⟩])
 (.block 0
 (.loop [1, 4, 6, 17]
 (.seq
 (.reg [⟨(some 18), (.nextS (.s 17)), none, none⟩,
  ⟨(some 19), (.ext 0 (.s 18)), none, none⟩])
 (.seqj [1, 4, 6, 17, 18]
 (.cond (.s 19)
 .skip
 (.exit 0))
 (.block 1
 (.seq
 (.reg [⟨(some 20), (.ext 1 (.s 18)), none, none⟩,
  ⟨(some 21), (.ext 2 (.s 18)), none, none⟩,
  ⟨(some 7), (.mv (.s 20)), none, none⟩,
  ⟨(some 8), (.mv (.s 21)), none, none⟩])
 (.seq
 (.reg [⟨(some 22), (.mv (.s 8)), none, none⟩,
  ⟨(some 23), (.eq (.one .i) false (.s 22) (.c (.int .i32 (10)))), none, none⟩])
 (.cond (.s 23)
 (.seq
 (.reg [⟨(some 24), (.mv (.s 4)), none, none⟩,
  ⟨(some 25), (.bin .add (.s 24) (.c (.int .i64 (1)))), none, none⟩,
  ⟨(some 4), (.mv (.s 25)), none, none⟩])
 (.reg [⟨(some 26), (.mv (.s 7)), none, none⟩,
  ⟨(some 27), (.bin .add (.s 26) (.c (.int .i64 (1)))), none, none⟩,
  ⟨(some 6), (.mv (.s 27)), none, none⟩]))
 .skip)))))))))
 (.seq
 (.reg [⟨(some 28), (.mv (.s 4)), none, none⟩,
  ⟨(some 29), (.mv (.s 1)), none, none⟩,
  ⟨(some 30), (.mv (.s 6)), none, none⟩,
  ⟨(some 31), (.bin .sub (.s 29) (.s 30)), none, none⟩,
  ⟨(some 32), (.bin .add (.s 31) (.c (.int .i64 (1)))), none, none⟩,
  ⟨(some 4), (.mv (.s 28)), none, none⟩,
  ⟨(some 5), (.mv (.s 32)), none, none⟩])
 .ret)))))) }
theorem cf12_ok : compFn Tryd.prog Tryd.f12 [[1, 4, 6], [1, 4, 6, 17], [1, 4, 6, 17, 18]] = some cf12 := by kernel_rfl
/- sprue/spruelaw12.within -/
def cf6 : Eva.Fn := { ntmps := 15, res := [(.s 4)], body :=
 (.seq
 (.reg [⟨(some 4), (.mv (.c (.int .i64 (0)))), none, none⟩])
 (.seq
 (.reg [⟨(some 6), (.mv (.s 0)), none, none⟩,
  ⟨(some 7), (.mv (.s 1)), none, none⟩,
  ⟨(some 8), (.bin .rem (.s 6) (.s 7)), none, none⟩,
  ⟨(some 5), (.mv (.s 8)), none, none⟩])
 (.seqj [5]
 (.seq
 (.reg [⟨(some 9), (.mv (.s 5)), none, none⟩,
  ⟨(some 10), (.bin .lss (.s 9) (.c (.int .i64 (0)))), none, none⟩])
 (.cond (.s 10)
 (.reg [⟨(some 11), (.mv (.s 5)), none, none⟩,
  ⟨(some 12), (.mv (.s 1)), none, none⟩,
  ⟨(some 13), (.bin .add (.s 11) (.s 12)), none, none⟩,
  ⟨(some 5), (.mv (.s 13)), none, none⟩])
 .skip))
 (.seq
 (.reg [⟨(some 14), (.mv (.s 5)), none, none⟩,
  ⟨(some 4), (.mv (.s 14)), none, none⟩])
 .ret)))) }
theorem cf6_ok : compFn Tryd.prog Tryd.f6 [[5]] = some cf6 := by kernel_rfl
/- sprue/spruelaw12.DiagTexts -/
def cf3 : Eva.Fn := { ntmps := 68, res := [(.s 8)], body :=
 (.seq
 (.reg [⟨(some 8), (.mv (.c (.bool false))), none, none⟩])
 (.seqj [0, 1, 2, 3]
 (.seq
 (.reg [⟨(some 15), (.call 5 []), none, none⟩,
  ⟨(some 16), (.not (.s 15)), none, none⟩])
 (.cond (.s 16)
 (.seq
 (.reg [⟨(some 8), (.mv (.c (.bool false))), none, none⟩])
 .ret)
 .skip))
 (.seqj [0, 1, 2, 3]
 (.seq
 (.reg [⟨(some 17), (.mv (.s 0)), none, none⟩,
  ⟨(some 18), (.lenS (.s 17)), none, none⟩,
  ⟨(some 19), (.bin .gtr (.s 18) (.c (.int .i64 (2000)))), none, none⟩,
  ⟨(some 20), (.mv (.s 19)), none, none⟩,
  ⟨(some 21), (.mv (.s 2)), (some (20, false)), none⟩,
  ⟨(some 22), (.lenS (.s 21)), (some (20, false)), none⟩,
  ⟨(some 23), (.bin .gtr (.s 22) (.c (.int .i64 (50)))), (some (20, false)), none⟩,
  ⟨(some 24), (.pick (.s 20) (.c (.bool true)) (.s 23)), none, none⟩])
 (.cond (.s 24)
 (.seq
 (.reg [⟨(some 8), (.mv (.c (.bool true))), none, none⟩])
 .ret)
 .skip))
 (.seq
 (.reg [⟨(some 25), (.mv (.s 1)), none, none⟩,
  ⟨(some 26), (.call 6 [(.s 25), (.c (.int .i64 (45)))]), none, none⟩,
  ⟨(some 1), (.mv (.s 26)), none, none⟩])
 (.seq
 (.reg [⟨(some 27), (.mv (.s 0)), none, none⟩,
  ⟨(some 28), (.mv (.s 1)), none, none⟩,
  ⟨(some 29), (.mv (.s 2)), none, none⟩,
  ⟨(some 30), (.mv (.s 3)), none, none⟩,
  ⟨(some 31), (.build [(.int .i64 (0)), (ofL []), (.int .i64 (0))] [(0, 1, (.s 28)), (1, 1, (.s 29)), (2, 1, (.s 30))]), none, none⟩,
  ⟨(some 32), (.call 7 [(.s 27), (.s 31)]), none, none⟩,
  ⟨(some 9), (.mv (.s 32)), none, none⟩])
 (.seq
 (.reg [⟨(some 33), (.mv (.s 0)), none, none⟩,
  ⟨(some 34), (.mv (.s 1)), none, none⟩,
  ⟨(some 35), (.mv (.s 2)), none, none⟩,
  ⟨(some 36), (.mv (.s 3)), none, none⟩,
  ⟨(some 37), (.build [(.int .i64 (0)), (ofL []), (.int .i64 (0))] [(0, 1, (.s 34)), (1, 1, (.s 35)), (2, 1, (.s 36))]), none, none⟩,
  ⟨(some 38), (.call 8 [(.s 33), (.s 37)]), none, none⟩,
  ⟨(some 10), (.mv (.s 38)), none, none⟩])
 (.seq
 (.reg [⟨(some 39), (.mv (.s 3)), none, none⟩,
  ⟨(some 40), (.mv (.s 0)), none, none⟩,
  ⟨(some 41), (.lenS (.s 40)), none, none⟩,
  ⟨(some 42), (.bin .add (.s 41) (.c (.int .i64 (1)))), none, none⟩,
  ⟨(some 43), (.call 6 [(.s 39), (.s 42)]), none, none⟩,
  ⟨(some 11), (.mv (.s 43)), none, none⟩])
 (.seq
 (.reg [⟨(some 44), (.mv (.s 0)), none, none⟩,
  ⟨(some 45), (.mv (.s 11)), none, none⟩,
  ⟨(some 46), (.build [(.int .i64 (0)), (ofL []), (.int .i64 (0))] [(0, 1, (.c (.int .i64 (17)))), (2, 1, (.s 45))]), none, none⟩,
  ⟨(some 47), (.call 7 [(.s 44), (.s 46)]), none, none⟩,
  ⟨(some 12), (.mv (.s 47)), none, none⟩])
 (.seq
 (.reg [⟨(some 49), (.mv (.s 0)), none, none⟩,
  ⟨(some 50), (.mv (.s 11)), none, none⟩,
  ⟨(some 51), (.call 9 [(.s 49), (.s 50)]), none, none⟩,
  ⟨(some 48), (.mv (.s 51)), none, none⟩,
  ⟨(some 52), (.ext 0 (.s 48)), none, none⟩,
  ⟨(some 53), (.ext 1 (.s 48)), none, none⟩,
  ⟨(some 13), (.mv (.s 52)), none, none⟩,
  ⟨(some 14), (.mv (.s 53)), none, none⟩])
 (.seq
 (.reg [⟨(some 54), (.mv (.s 9)), none, none⟩,
  ⟨(some 55), (.mv (.s 10)), none, none⟩,
  ⟨(some 56), (.eq (.one .s) false (.s 54) (.s 55)), none, none⟩,
  ⟨(some 57), (.mv (.s 56)), none, none⟩,
  ⟨(some 58), (.mv (.s 12)), (some (57, true)), none⟩,
  ⟨(some 59), (.mv (.s 13)), (some (57, true)), none⟩,
  ⟨(some 60), (.call 10 [(.s 59)]), (some (57, true)), none⟩,
  ⟨(some 61), (.bin .add (.s 60) (.c (ofL [58]))), (some (57, true)), none⟩,
  ⟨(some 62), (.mv (.s 14)), (some (57, true)), none⟩,
  ⟨(some 63), (.call 10 [(.s 62)]), (some (57, true)), none⟩,
  ⟨(some 64), (.bin .add (.s 61) (.s 63)), (some (57, true)), none⟩,
  ⟨(some 65), (.bin .add (.s 64) (.c (ofL [58, 32, 116, 121, 112, 101]))), (some (57, true)), none⟩,
  ⟨(some 66), (.eq (.one .s) false (.s 58) (.s 65)), (some (57, true)), none⟩,
  ⟨(some 67), (.pick (.s 57) (.s 66) (.c (.bool false))), none, none⟩,
  ⟨(some 8), (.mv (.s 67)), none, none⟩])
 .ret)))))))))) }
theorem cf3_ok : compFn Tryd.prog Tryd.f3 [[0, 1, 2, 3], [0, 1, 2, 3]] = some cf3 := by kernel_rfl
/- sprue/sprueref12.Text -/
def cf8 : Eva.Fn := { ntmps := 38, res := [(.s 4)], body :=
 (.seq
 (.reg [⟨(some 3), (.box (.s 1)), none, none⟩,
  ⟨(some 4), (.mv (.c (ofL []))), none, none⟩])
 (.seqj [0, 3]
 (.seq
 (.reg [⟨(some 8), (.faddr 0 (.s 3)), none, none⟩,
  ⟨(some 9), (.load1 (.s 8)), none, none⟩,
  ⟨(some 10), (.eq (.one .i) false (.s 9) (.c (.int .i64 (0)))), none, none⟩])
 (.cond (.s 10)
 (.seq
 (.reg [⟨(some 4), (.mv (.c (ofL [111, 107]))), none, none⟩])
 .ret)
 .skip))
 (.seq
 (.reg [⟨(some 12), (.mv (.s 0)), none, none⟩,
  ⟨(some 13), (.faddr 2 (.s 3)), none, none⟩,
  ⟨(some 14), (.load1 (.s 13)), none, none⟩,
  ⟨(some 15), (.call 9 [(.s 12), (.s 14)]), none, none⟩,
  ⟨(some 11), (.mv (.s 15)), none, none⟩,
  ⟨(some 16), (.ext 0 (.s 11)), none, none⟩,
  ⟨(some 17), (.ext 1 (.s 11)), none, none⟩,
  ⟨(some 5), (.mv (.s 16)), none, none⟩,
  ⟨(some 6), (.mv (.s 17)), none, none⟩])
 (.seq
 (.reg [⟨(some 18), (.mv (.s 5)), none, none⟩,
  ⟨(some 19), (.call 14 [(.s 18)]), none, none⟩,
  ⟨(some 20), (.bin .add (.s 19) (.c (ofL [58]))), none, none⟩,
  ⟨(some 21), (.mv (.s 6)), none, none⟩,
  ⟨(some 22), (.call 14 [(.s 21)]), none, none⟩,
  ⟨(some 23), (.bin .add (.s 20) (.s 22)), none, none⟩,
  ⟨(some 24), (.bin .add (.s 23) (.c (ofL [58, 32]))), none, none⟩,
  ⟨(some 7), (.mv (.s 24)), none, none⟩])
 (.seqj [3, 7]
 (.seq
 (.reg [⟨(some 25), (.faddr 1 (.s 3)), none, none⟩,
  ⟨(some 26), (.load1 (.s 25)), none, none⟩,
  ⟨(some 27), (.eq (.one .s) true (.s 26) (.c (ofL []))), none, none⟩])
 (.cond (.s 27)
 (.reg [⟨(some 28), (.mv (.s 7)), none, none⟩,
  ⟨(some 29), (.faddr 1 (.s 3)), none, none⟩,
  ⟨(some 30), (.load1 (.s 29)), none, none⟩,
  ⟨(some 31), (.bin .add (.s 28) (.s 30)), none, none⟩,
  ⟨(some 32), (.bin .add (.s 31) (.c (ofL [58, 32]))), none, none⟩,
  ⟨(some 7), (.mv (.s 32)), none, none⟩])
 .skip))
 (.seq
 (.reg [⟨(some 33), (.mv (.s 7)), none, none⟩,
  ⟨(some 34), (.faddr 0 (.s 3)), none, none⟩,
  ⟨(some 35), (.load1 (.s 34)), none, none⟩,
  ⟨(some 36), (.call 11 [(.s 35)]), none, none⟩,
  ⟨(some 37), (.bin .add (.s 33) (.s 36)), none, none⟩,
  ⟨(some 4), (.mv (.s 37)), none, none⟩])
 .ret)))))) }
theorem cf8_ok : compFn Tryd.prog Tryd.f8 [[0, 3], [3, 7]] = some cf8 := by kernel_rfl
/- sprue/sprueref2.Place -/
def cf9 : Eva.Fn := { ntmps := 29, res := [(.s 4), (.s 5)], body :=
 (.seq
 (.reg [⟨(some 4), (.mv (.c (.int .i64 (0)))), none, none⟩,
  ⟨(some 5), (.mv (.c (.int .i64 (0)))), none, none⟩])
 (.seq
 (.reg [⟨(some 9), (.mv (.s 1)), none, none⟩,
  ⟨(some 10), (.max (.s 9) (.c (.int .i64 (0)))), none, none⟩,
  ⟨(some 11), (.mv (.s 0)), none, none⟩,
  ⟨(some 12), (.lenS (.s 11)), none, none⟩,
  ⟨(some 13), (.min (.s 10) (.s 12)), none, none⟩,
  ⟨(some 1), (.mv (.s 13)), none, none⟩])
 (.seq
 (.reg [⟨(some 6), (.mv (.c (.int .i64 (1)))), none, none⟩,
  ⟨(some 7), (.mv (.c (.int .i64 (1)))), none, none⟩])
 (.seqj [6, 7]
 (.seq
 (.reg [⟨(some 8), (.mv (.c (.int .i64 (0)))), none, none⟩])
 (.block 0
 (.loop [0, 1, 6, 7, 8]
 (.seqj [0, 1, 6, 7, 8]
 (.seq
 (.reg [⟨(some 14), (.mv (.s 8)), none, none⟩,
  ⟨(some 15), (.mv (.s 1)), none, none⟩,
  ⟨(some 16), (.bin .lss (.s 14) (.s 15)), none, none⟩])
 (.cond (.s 16)
 .skip
 (.exit 0)))
 (.seqj [0, 1, 6, 7, 8]
 (.block 1
 (.seq
 (.reg [⟨(some 19), (.mv (.s 7)), none, none⟩,
  ⟨(some 20), (.bin .add (.s 19) (.c (.int .i64 (1)))), none, none⟩,
  ⟨(some 7), (.mv (.s 20)), none, none⟩])
 (.seq
 (.reg [⟨(some 21), (.mv (.s 0)), none, none⟩,
  ⟨(some 22), (.mv (.s 8)), none, none⟩,
  ⟨(some 23), (.idxS (.s 21) (.s 22)), none, none⟩,
  ⟨(some 24), (.eq (.one .i) false (.s 23) (.c (.int .u8 (10)))), none, none⟩])
 (.cond (.s 24)
 (.seq
 (.reg [⟨(some 25), (.mv (.s 6)), none, none⟩,
  ⟨(some 26), (.bin .add (.s 25) (.c (.int .i64 (1)))), none, none⟩,
  ⟨(some 6), (.mv (.s 26)), none, none⟩])
 (.reg [⟨(some 7), (.mv (.c (.int .i64 (1)))), none, none⟩]))
 .skip))))
 (.reg [⟨(some 17), (.mv (.s 8)), none, none⟩,
  ⟨(some 18), (.bin .add (.s 17) (.c (.int .i64 (1)))), none, none⟩,
  ⟨(some 8), (.mv (.s 18)), none, none⟩]))))))
 (.seq
 (.reg [⟨(some 27), (.mv (.s 6)), none, none⟩,
  ⟨(some 28), (.mv (.s 7)), none, none⟩,
  ⟨(some 4), (.mv (.s 27)), none, none⟩,
  ⟨(some 5), (.mv (.s 28)), none, none⟩])
 .ret))))) }
theorem cf9_ok : compFn Tryd.prog Tryd.f9 [[6, 7], [0, 1, 6, 7, 8], [0, 1, 6, 7, 8], [0, 1, 6, 7, 8]] = some cf9 := by kernel_rfl
/- sprue/sprueref12.decimal -/
def cf14 : Eva.Fn := { ntmps := 17, res := [(.s 2)], body :=
 (.seq
 (.reg [⟨(some 2), (.mv (.c (ofL []))), none, none⟩])
 (.seqj [0]
 (.seq
 (.reg [⟨(some 3), (.mv (.s 0)), none, none⟩,
  ⟨(some 4), (.bin .geq (.s 3) (.c (.int .i64 (10)))), none, none⟩])
 (.cond (.s 4)
 (.seq
 (.reg [⟨(some 5), (.mv (.s 0)), none, none⟩,
  ⟨(some 6), (.bin .quo (.s 5) (.c (.int .i64 (10)))), none, none⟩,
  ⟨(some 7), (.call 14 [(.s 6)]), none, none⟩,
  ⟨(some 8), (.mv (.s 0)), none, none⟩,
  ⟨(some 9), (.bin .rem (.s 8) (.c (.int .i64 (10)))), none, none⟩,
  ⟨(some 10), (.call 14 [(.s 9)]), none, none⟩,
  ⟨(some 11), (.bin .add (.s 7) (.s 10)), none, none⟩,
  ⟨(some 2), (.mv (.s 11)), none, none⟩])
 .ret)
 .skip))
 (.seq
 (.reg [⟨(some 12), (.mv (.s 0)), none, none⟩,
  ⟨(some 13), (.bin .add (.c (.int .i64 (48))) (.s 12)), none, none⟩,
  ⟨(some 14), (.toint .u8 (.s 13)), none, none⟩,
  ⟨(some 15), (.bsl 1 1 [(.int .u8 (0))] [(0, 1, (.s 14))]), none, none⟩,
  ⟨(some 16), (.bts (.s 15)), none, none⟩,
  ⟨(some 2), (.mv (.s 16)), none, none⟩])
 .ret))) }
theorem cf14_ok : compFn Tryd.prog Tryd.f14 [[0]] = some cf14 := by kernel_rfl
/- sprue/spruelaw12.decimal -/
def cf10 : Eva.Fn := { ntmps := 17, res := [(.s 2)], body :=
 (.seq
 (.reg [⟨(some 2), (.mv (.c (ofL []))), none, none⟩])
 (.seqj [0]
 (.seq
 (.reg [⟨(some 3), (.mv (.s 0)), none, none⟩,
  ⟨(some 4), (.bin .geq (.s 3) (.c (.int .i64 (10)))), none, none⟩])
 (.cond (.s 4)
 (.seq
 (.reg [⟨(some 5), (.mv (.s 0)), none, none⟩,
  ⟨(some 6), (.bin .quo (.s 5) (.c (.int .i64 (10)))), none, none⟩,
  ⟨(some 7), (.call 10 [(.s 6)]), none, none⟩,
  ⟨(some 8), (.mv (.s 0)), none, none⟩,
  ⟨(some 9), (.bin .rem (.s 8) (.c (.int .i64 (10)))), none, none⟩,
  ⟨(some 10), (.call 10 [(.s 9)]), none, none⟩,
  ⟨(some 11), (.bin .add (.s 7) (.s 10)), none, none⟩,
  ⟨(some 2), (.mv (.s 11)), none, none⟩])
 .ret)
 .skip))
 (.seq
 (.reg [⟨(some 12), (.mv (.s 0)), none, none⟩,
  ⟨(some 13), (.bin .add (.c (.int .i64 (48))) (.s 12)), none, none⟩,
  ⟨(some 14), (.toint .u8 (.s 13)), none, none⟩,
  ⟨(some 15), (.bsl 1 1 [(.int .u8 (0))] [(0, 1, (.s 14))]), none, none⟩,
  ⟨(some 16), (.bts (.s 15)), none, none⟩,
  ⟨(some 2), (.mv (.s 16)), none, none⟩])
 .ret))) }
theorem cf10_ok : compFn Tryd.prog Tryd.f10 [[0]] = some cf10 := by kernel_rfl
noncomputable def tabD : BT :=
  (.node 9 (.node 5 (.node 3 (.leaf 3 (fnD 1000000 cf3))
  (.node 4 (.leaf 4 (fnD 1000000 cf4))
  (.leaf 5 (hookE trueG))))
  (.node 7 (.node 6 (.leaf 6 (fnD 1000000 cf6))
  (.leaf 7 (fnD 1000000 cf7)))
  (.node 8 (.leaf 8 (fnD 1000000 cf8))
  (.leaf 9 (fnD 1000000 cf9)))))
  (.node 13 (.node 11 (.node 10 (.leaf 10 (fnD 1000000 cf10))
  (.leaf 11 (fnD 1000000 cf11)))
  (.node 12 (.leaf 12 (fnD 1000000 cf12))
  (.leaf 13 (hookE itoaH))))
  (.node 15 (.node 14 (.leaf 14 (fnD 1000000 cf14))
  (.leaf 15 (fnD 1000000 cf15)))
  (.node 16 (.leaf 16 (fnD 1000000 cf16))
  (.leaf 17 (fnD 1000000 cf17))))))
theorem at3 : tabT tabD 3 = some (evFn 1000000 cf3) := by kernel_rfl
theorem at4 : tabT tabD 4 = some (evFn 1000000 cf4) := by kernel_rfl
theorem at5 : tabT tabD 5 = some (hookE trueG).b := by kernel_rfl
theorem at6 : tabT tabD 6 = some (evFn 1000000 cf6) := by kernel_rfl
theorem at7 : tabT tabD 7 = some (evFn 1000000 cf7) := by kernel_rfl
theorem at8 : tabT tabD 8 = some (evFn 1000000 cf8) := by kernel_rfl
theorem at9 : tabT tabD 9 = some (evFn 1000000 cf9) := by kernel_rfl
theorem at10 : tabT tabD 10 = some (evFn 1000000 cf10) := by kernel_rfl
theorem at11 : tabT tabD 11 = some (evFn 1000000 cf11) := by kernel_rfl
theorem at12 : tabT tabD 12 = some (evFn 1000000 cf12) := by kernel_rfl
theorem at13 : tabT tabD 13 = some (hookE itoaH).b := by kernel_rfl
theorem at14 : tabT tabD 14 = some (evFn 1000000 cf14) := by kernel_rfl
theorem at15 : tabT tabD 15 = some (evFn 1000000 cf15) := by kernel_rfl
theorem at16 : tabT tabD 16 = some (evFn 1000000 cf16) := by kernel_rfl
theorem at17 : tabT tabD 17 = some (evFn 1000000 cf17) := by kernel_rfl
theorem tabD_B {ρ : Nat → Value} {W : World} (hρ : ∀ i, (ρ i).oneCell' = true) (ht : Lib.TabIs Tryd.prog W "internal/strconv.uint64pow10" .u64 Lib.pow10Tab) : tabD.all fun i e => BodyOK Tryd.prog ρ ⟨W.heap.size, W⟩ i e.b :=
  ⟨⟨⟨fnD_B cf3_ok Tryd.func3 (by decide) hρ mixed, ⟨fnD_B cf4_ok Tryd.func4 (by decide) hρ mixed, trueE_B0 Tryd.func5 (by kernel_rfl) (by decide) known_calls⟩⟩, ⟨⟨fnD_B cf6_ok Tryd.func6 (by decide) hρ mixed, fnD_B cf7_ok Tryd.func7 (by decide) hρ mixed⟩, ⟨fnD_B cf8_ok Tryd.func8 (by decide) hρ mixed, fnD_B cf9_ok Tryd.func9 (by decide) hρ mixed⟩⟩⟩, ⟨⟨⟨fnD_B cf10_ok Tryd.func10 (by decide) hρ mixed, fnD_B cf11_ok Tryd.func11 (by decide) hρ mixed⟩, ⟨fnD_B cf12_ok Tryd.func12 (by decide) hρ mixed, itoaH_B Tryd.func13 (by kernel_rfl) (by decide) ht fun n h0 h1 w htab => Tryd.strconv_Itoa n h0 h1 w htab⟩⟩, ⟨⟨fnD_B cf14_ok Tryd.func14 (by decide) hρ mixed, fnD_B cf15_ok Tryd.func15 (by decide) hρ mixed⟩, ⟨fnD_B cf16_ok Tryd.func16 (by decide) hρ mixed, fnD_B cf17_ok Tryd.func17 (by decide) hρ mixed⟩⟩⟩⟩
end Go.Proofs.YtpaodecpdbjfbaaDoor
