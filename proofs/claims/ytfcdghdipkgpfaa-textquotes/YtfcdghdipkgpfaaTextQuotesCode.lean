/- The code of the law and of all that it calls, for the evaluator; what stands in for the library's. No condition. -/
import Derived.Test.YtfcdghdipkgpfaaRows
import Derived.Test.YtfcdghdipkgpfaaShelf
import Derived.WalkKit
import Derived.Test.YtfcdghdipkgpfaaEva6
namespace Go.Proofs.Ytfcdghdipkgpfaa
open Eva Go.RowKit
def kf5 : KFn := { params := [(.at .d0 .d0), (.at .d0 .d1)], res := [(.s (.s .d0 .d4))], body :=
 (.seq
 (.reg [⟨(.at .d0 .d4), (.mv (.c (.bool false))), [(.c (.bool false))], .no, false, none⟩])
 (.seq
 (.seq
 (.reg [⟨(.at .d0 .d10), (.call 9 []), [], .no, false, none⟩, ⟨(.at .d0 .d11), (.not (.s 10)), [(.s .d0 .d10)], .no, false, none⟩])
 (.cond (.s .d0 .d11)
 (.seq
 (.reg [⟨(.at .d0 .d4), (.mv (.c (.bool false))), [(.c (.bool false))], .no, false, none⟩])
 .ret)
 .skip))
 (.seq
 (.reg [⟨(.at .d0 .d12), (.mv (.s 0)), [(.s .d0 .d0)], .no, false, none⟩, ⟨(.at .d0 .d13), (.call 13 [(.s 12), (.c (.int .i64 (Int.ofNat 12)))]), [(.s .d0 .d12), (.c (.int .i64 (Int.ofNat 12)))], .no, false, none⟩, ⟨(.at .d0 .d0), (.mv (.s 13)), [(.s .d0 .d13)], .no, false, none⟩])
 (.seq
 (.reg [⟨(.at .d0 .d5), (.mv (.c (.str 0 0))), [(.c (.str 0 0))], .no, false, none⟩])
 (.seq
 (.seq
 (.reg [⟨(.at .d0 .d6), (.mv (.c (.int .i64 (Int.ofNat 0)))), [(.c (.int .i64 (Int.ofNat 0)))], .no, false, none⟩])
 (.block 0
 (.loop
 (.seq
 (.seq
 (.reg [⟨(.at .d0 .d14), (.mv (.s 6)), [(.s .d0 .d6)], .no, false, none⟩, ⟨(.at .d0 .d15), (.mv (.s 0)), [(.s .d0 .d0)], .no, false, none⟩, ⟨(.at .d0 .d16), (.bin .lss (.s 14) (.s 15)), [(.s .d0 .d14), (.s .d0 .d15)], .no, false, none⟩])
 (.cond (.s .d0 .d16)
 .skip
 (.exit 0)))
 (.seq
 (.block 1
 (.reg [⟨(.at .d0 .d19), (.mv (.s 5)), [(.s .d0 .d5)], .no, false, none⟩, ⟨(.at .d0 .d20), (.bin .add (.s 19) (.c (.str 1 92))), [(.s .d0 .d19), (.c (.str 1 92))], .no, false, none⟩, ⟨(.at .d0 .d5), (.mv (.s 20)), [(.s .d0 .d20)], .no, false, none⟩]))
 (.reg [⟨(.at .d0 .d17), (.mv (.s 6)), [(.s .d0 .d6)], .no, false, none⟩, ⟨(.at .d0 .d18), (.bin .add (.s 17) (.c (.int .i64 (Int.ofNat 1)))), [(.s .d0 .d17), (.c (.int .i64 (Int.ofNat 1)))], .no, false, none⟩, ⟨(.at .d0 .d6), (.mv (.s 18)), [(.s .d0 .d18)], .no, false, none⟩]))))))
 (.seq
 (.reg [⟨(.at .d0 .d21), (.mv (.s 5)), [(.s .d0 .d5)], .no, false, none⟩, ⟨(.at .d0 .d22), (.bin .add (.c (.str 3 2259835)) (.s 21)), [(.c (.str 3 2259835)), (.s .d0 .d21)], .no, false, none⟩, ⟨(.at .d0 .d23), (.bin .add (.s 22) (.c (.str 3 8224034))), [(.s .d0 .d22), (.c (.str 3 8224034))], .no, false, none⟩, ⟨(.at .d0 .d7), (.mv (.s 23)), [(.s .d0 .d23)], .no, false, none⟩])
 (.seq
 (.seq
 (.reg [⟨(.at .d0 .d24), (.mv (.s 1)), [(.s .d0 .d1)], .no, false, none⟩])
 (.cond (.s .d0 .d24)
 (.reg [⟨(.at .d0 .d25), (.mv (.s 7)), [(.s .d0 .d7)], .no, false, none⟩, ⟨(.at .d0 .d26), (.bin .add (.s 25) (.c (.str 3 8224034))), [(.s .d0 .d25), (.c (.str 3 8224034))], .no, false, none⟩, ⟨(.at .d0 .d7), (.mv (.s 26)), [(.s .d0 .d26)], .no, false, none⟩])
 .skip))
 (.seq
 (.reg [⟨(.at .d0 .d28), (.mv (.s 7)), [(.s .d0 .d7)], .no, false, none⟩, ⟨(.at .d0 .d29), (.call 11 [(.s 28)]), [(.s .d0 .d28)], .no, false, none⟩, ⟨(.at .d0 .d27), (.mv (.s 29)), [(.s .d0 .d29)], .no, false, none⟩, ⟨(.at .d0 .d30), (.ext 0 (.s 27)), [(.s .d0 .d27)], .no, false, none⟩, ⟨(.at .d0 .d31), (.ext 1 (.s 27)), [(.s .d0 .d27)], .no, false, none⟩, ⟨(.at .d0 .d8), (.mv (.s 30)), [(.s .d0 .d30)], .no, false, none⟩, ⟨(.at .d0 .d9), (.mv (.s 31)), [(.s .d0 .d31)], .no, false, none⟩])
 (.seq
 (.block 2
 (.seq
 (.reg [⟨(.at .d1 .d1), (.mv (.s 0)), [(.s .d0 .d0)], .no, false, none⟩, ⟨(.at .d1 .d2), (.bin .rem (.s 33) (.c (.int .i64 (Int.ofNat 2)))), [(.s .d1 .d1), (.c (.int .i64 (Int.ofNat 2)))], .no, false, none⟩, ⟨(.at .d1 .d3), (.eq (.one .i) false (.s 34) (.c (.int .i64 (Int.ofNat 0)))), [(.s .d1 .d2), (.c (.int .i64 (Int.ofNat 0)))], .no, false, none⟩, ⟨(.at .d1 .d4), (.mv (.s 35)), [(.s .d1 .d3)], .no, false, none⟩, ⟨(.at .d1 .d5), (.mv (.s 1)), [(.s .d0 .d1)], (.on .d1 .d4 true), false, none⟩, ⟨(.at .d1 .d6), (.not (.s 37)), [(.s .d1 .d5)], (.on .d1 .d4 true), false, none⟩, ⟨(.at .d1 .d7), (.pick (.s 36) (.s 38) (.c (.bool false))), [(.s .d1 .d4), (.s .d1 .d6), (.c (.bool false))], .no, false, none⟩, ⟨(.at .d1 .d0), (.mv (.s 39)), [(.s .d1 .d7)], .no, false, none⟩])
 (.cond (.s .d1 .d0)
 (.seq
 (.reg [⟨(.at .d1 .d8), (.mv (.s 9)), [(.s .d0 .d9)], .no, false, none⟩, ⟨(.at .d1 .d9), (.eq (.one .i) false (.s 40) (.c (.int .i64 (Int.ofNat 0)))), [(.s .d1 .d8), (.c (.int .i64 (Int.ofNat 0)))], .no, false, none⟩, ⟨(.at .d1 .d10), (.mv (.s 41)), [(.s .d1 .d9)], .no, false, none⟩, ⟨(.at .d1 .d11), (.mv (.s 8)), [(.s .d0 .d8)], (.on .d1 .d10 true), false, none⟩, ⟨(.at .d1 .d12), (.lenL (.s 43)), [(.s .d1 .d11)], (.on .d1 .d10 true), false, none⟩, ⟨(.at .d1 .d13), (.eq (.one .i) false (.s 44) (.c (.int .i64 (Int.ofNat 1)))), [(.s .d1 .d12), (.c (.int .i64 (Int.ofNat 1)))], (.on .d1 .d10 true), false, none⟩, ⟨(.at .d1 .d14), (.pick (.s 42) (.s 45) (.c (.bool false))), [(.s .d1 .d10), (.s .d1 .d13), (.c (.bool false))], .no, false, none⟩, ⟨(.at .d1 .d15), (.mv (.s 46)), [(.s .d1 .d14)], .no, false, none⟩, ⟨(.at .d1 .d16), (.mv (.s 8)), [(.s .d0 .d8)], (.on .d1 .d15 true), false, none⟩, ⟨(.at .d1 .d17), (.iaddrS 3 (.s 48) (.c (.int .i64 (Int.ofNat 0)))), [(.s .d1 .d16), (.c (.int .i64 (Int.ofNat 0)))], (.on .d1 .d15 true), false, none⟩, ⟨(.at .d1 .d18), (.faddr 1 (.s 49)), [(.s .d1 .d17)], (.on .d1 .d15 true), false, none⟩, ⟨(.at .d1 .d19), (.load1 (.s 50)), [(.s .d1 .d18)], (.on .d1 .d15 true), false, none⟩, ⟨(.at .d1 .d20), (.lenS (.s 51)), [(.s .d1 .d19)], (.on .d1 .d15 true), false, none⟩, ⟨(.at .d1 .d21), (.mv (.s 0)), [(.s .d0 .d0)], (.on .d1 .d15 true), false, none⟩, ⟨(.at .d1 .d22), (.bin .add (.s 53) (.c (.int .i64 (Int.ofNat 2)))), [(.s .d1 .d21), (.c (.int .i64 (Int.ofNat 2)))], (.on .d1 .d15 true), false, none⟩, ⟨(.at .d1 .d23), (.eq (.one .i) false (.s 52) (.s 54)), [(.s .d1 .d20), (.s .d1 .d22)], (.on .d1 .d15 true), false, none⟩, ⟨(.at .d1 .d24), (.pick (.s 47) (.s 55) (.c (.bool false))), [(.s .d1 .d15), (.s .d1 .d23), (.c (.bool false))], .no, false, none⟩, ⟨(.at .d0 .d4), (.mv (.s 56)), [(.s .d1 .d24)], .no, false, none⟩])
 .ret)
 (.seq
 (.reg [⟨(.at .d1 .d26), (.mv (.s 0)), [(.s .d0 .d0)], .no, false, none⟩, ⟨(.at .d1 .d27), (.bin .rem (.s 58) (.c (.int .i64 (Int.ofNat 2)))), [(.s .d1 .d26), (.c (.int .i64 (Int.ofNat 2)))], .no, false, none⟩, ⟨(.at .d1 .d28), (.eq (.one .i) false (.s 59) (.c (.int .i64 (Int.ofNat 0)))), [(.s .d1 .d27), (.c (.int .i64 (Int.ofNat 0)))], .no, false, none⟩, ⟨(.at .d1 .d25), (.mv (.s 60)), [(.s .d1 .d28)], .no, false, none⟩])
 (.cond (.s .d1 .d25)
 (.seq
 (.reg [⟨(.at .d1 .d29), (.mv (.s 9)), [(.s .d0 .d9)], .no, false, none⟩, ⟨(.at .d1 .d30), (.eq (.one .i) false (.s 61) (.c (.int .i64 (Int.ofNat 0)))), [(.s .d1 .d29), (.c (.int .i64 (Int.ofNat 0)))], .no, false, none⟩, ⟨(.at .d1 .d31), (.mv (.s 62)), [(.s .d1 .d30)], .no, false, none⟩, ⟨(.at .d2 .d0), (.mv (.s 8)), [(.s .d0 .d8)], (.on .d1 .d31 true), false, none⟩, ⟨(.at .d2 .d1), (.lenL (.s 64)), [(.s .d2 .d0)], (.on .d1 .d31 true), false, none⟩, ⟨(.at .d2 .d2), (.eq (.one .i) false (.s 65) (.c (.int .i64 (Int.ofNat 2)))), [(.s .d2 .d1), (.c (.int .i64 (Int.ofNat 2)))], (.on .d1 .d31 true), false, none⟩, ⟨(.at .d2 .d3), (.pick (.s 63) (.s 66) (.c (.bool false))), [(.s .d1 .d31), (.s .d2 .d2), (.c (.bool false))], .no, false, none⟩, ⟨(.at .d2 .d4), (.mv (.s 67)), [(.s .d2 .d3)], .no, false, none⟩, ⟨(.at .d2 .d5), (.mv (.s 8)), [(.s .d0 .d8)], (.on .d2 .d4 true), false, none⟩, ⟨(.at .d2 .d6), (.iaddrS 3 (.s 69) (.c (.int .i64 (Int.ofNat 1)))), [(.s .d2 .d5), (.c (.int .i64 (Int.ofNat 1)))], (.on .d2 .d4 true), false, none⟩, ⟨(.at .d2 .d7), (.faddr 0 (.s 70)), [(.s .d2 .d6)], (.on .d2 .d4 true), false, none⟩, ⟨(.at .d2 .d8), (.load1 (.s 71)), [(.s .d2 .d7)], (.on .d2 .d4 true), false, none⟩, ⟨(.at .d2 .d9), (.not (.s 72)), [(.s .d2 .d8)], (.on .d2 .d4 true), false, none⟩, ⟨(.at .d2 .d10), (.pick (.s 68) (.s 73) (.c (.bool false))), [(.s .d2 .d4), (.s .d2 .d9), (.c (.bool false))], .no, false, none⟩, ⟨(.at .d2 .d11), (.mv (.s 74)), [(.s .d2 .d10)], .no, false, none⟩, ⟨(.at .d2 .d12), (.mv (.s 8)), [(.s .d0 .d8)], (.on .d2 .d11 true), false, none⟩, ⟨(.at .d2 .d13), (.iaddrS 3 (.s 76) (.c (.int .i64 (Int.ofNat 1)))), [(.s .d2 .d12), (.c (.int .i64 (Int.ofNat 1)))], (.on .d2 .d11 true), false, none⟩, ⟨(.at .d2 .d14), (.faddr 1 (.s 77)), [(.s .d2 .d13)], (.on .d2 .d11 true), false, none⟩, ⟨(.at .d2 .d15), (.load1 (.s 78)), [(.s .d2 .d14)], (.on .d2 .d11 true), false, none⟩, ⟨(.at .d2 .d16), (.eq (.one .s) false (.s 79) (.c (.str 3 8224034))), [(.s .d2 .d15), (.c (.str 3 8224034))], (.on .d2 .d11 true), false, none⟩, ⟨(.at .d2 .d17), (.pick (.s 75) (.s 80) (.c (.bool false))), [(.s .d2 .d11), (.s .d2 .d16), (.c (.bool false))], .no, false, none⟩, ⟨(.at .d0 .d4), (.mv (.s 81)), [(.s .d2 .d17)], .no, false, none⟩])
 .ret)
 (.seq
 (.reg [⟨(.at .d2 .d19), (.mv (.s 1)), [(.s .d0 .d1)], .no, false, none⟩, ⟨(.at .d2 .d18), (.mv (.s 83)), [(.s .d2 .d19)], .no, false, none⟩])
 (.cond (.s .d2 .d18)
 (.seq
 (.reg [⟨(.at .d2 .d20), (.mv (.s 9)), [(.s .d0 .d9)], .no, false, none⟩, ⟨(.at .d2 .d21), (.eq (.one .i) false (.s 84) (.c (.int .i64 (Int.ofNat 0)))), [(.s .d2 .d20), (.c (.int .i64 (Int.ofNat 0)))], .no, false, none⟩, ⟨(.at .d2 .d22), (.mv (.s 85)), [(.s .d2 .d21)], .no, false, none⟩, ⟨(.at .d2 .d23), (.mv (.s 8)), [(.s .d0 .d8)], (.on .d2 .d22 true), false, none⟩, ⟨(.at .d2 .d24), (.lenL (.s 87)), [(.s .d2 .d23)], (.on .d2 .d22 true), false, none⟩, ⟨(.at .d2 .d25), (.eq (.one .i) false (.s 88) (.c (.int .i64 (Int.ofNat 1)))), [(.s .d2 .d24), (.c (.int .i64 (Int.ofNat 1)))], (.on .d2 .d22 true), false, none⟩, ⟨(.at .d2 .d26), (.pick (.s 86) (.s 89) (.c (.bool false))), [(.s .d2 .d22), (.s .d2 .d25), (.c (.bool false))], .no, false, none⟩, ⟨(.at .d2 .d27), (.mv (.s 90)), [(.s .d2 .d26)], .no, false, none⟩, ⟨(.at .d2 .d28), (.mv (.s 8)), [(.s .d0 .d8)], (.on .d2 .d27 true), false, none⟩, ⟨(.at .d2 .d29), (.iaddrS 3 (.s 92) (.c (.int .i64 (Int.ofNat 0)))), [(.s .d2 .d28), (.c (.int .i64 (Int.ofNat 0)))], (.on .d2 .d27 true), false, none⟩, ⟨(.at .d2 .d30), (.faddr 1 (.s 93)), [(.s .d2 .d29)], (.on .d2 .d27 true), false, none⟩, ⟨(.at .d2 .d31), (.load1 (.s 94)), [(.s .d2 .d30)], (.on .d2 .d27 true), false, none⟩, ⟨(.at .d3 .d0), (.lenS (.s 95)), [(.s .d2 .d31)], (.on .d2 .d27 true), false, none⟩, ⟨(.at .d3 .d1), (.mv (.s 0)), [(.s .d0 .d0)], (.on .d2 .d27 true), false, none⟩, ⟨(.at .d3 .d2), (.bin .add (.s 97) (.c (.int .i64 (Int.ofNat 5)))), [(.s .d3 .d1), (.c (.int .i64 (Int.ofNat 5)))], (.on .d2 .d27 true), false, none⟩, ⟨(.at .d3 .d3), (.eq (.one .i) false (.s 96) (.s 98)), [(.s .d3 .d0), (.s .d3 .d2)], (.on .d2 .d27 true), false, none⟩, ⟨(.at .d3 .d4), (.pick (.s 91) (.s 99) (.c (.bool false))), [(.s .d2 .d27), (.s .d3 .d3), (.c (.bool false))], .no, false, none⟩, ⟨(.at .d0 .d4), (.mv (.s 100)), [(.s .d3 .d4)], .no, false, none⟩])
 .ret)
 .skip)))))))
 (.seq
 (.reg [⟨(.at .d3 .d5), (.mv (.s 9)), [(.s .d0 .d9)], .no, false, none⟩, ⟨(.at .d3 .d6), (.eq (.one .i) false (.s 101) (.c (.int .i64 (Int.ofNat 11)))), [(.s .d3 .d5), (.c (.int .i64 (Int.ofNat 11)))], .no, false, none⟩, ⟨(.at .d3 .d7), (.mv (.s 102)), [(.s .d3 .d6)], .no, false, none⟩, ⟨(.at .d3 .d8), (.mv (.s 8)), [(.s .d0 .d8)], (.on .d3 .d7 true), false, none⟩, ⟨(.at .d3 .d9), (.lenL (.s 104)), [(.s .d3 .d8)], (.on .d3 .d7 true), false, none⟩, ⟨(.at .d3 .d10), (.eq (.one .i) false (.s 105) (.c (.int .i64 (Int.ofNat 0)))), [(.s .d3 .d9), (.c (.int .i64 (Int.ofNat 0)))], (.on .d3 .d7 true), false, none⟩, ⟨(.at .d3 .d11), (.pick (.s 103) (.s 106) (.c (.bool false))), [(.s .d3 .d7), (.s .d3 .d10), (.c (.bool false))], .no, false, none⟩, ⟨(.at .d0 .d4), (.mv (.s 107)), [(.s .d3 .d11)], .no, false, none⟩])
 .ret)))))))))) }
theorem kf5_ok : (compFn Try.prog Try.f5 [[0, 1], [0, 1, 5], [0, 1, 5, 6], [0, 1, 5, 6], [0, 1, 5, 6], [0, 1, 7], [8, 9]]).bind (toKFn 2) = some kf5 := by kernel_rfl
def kf9 : KFn := { params := [], res := [(.s (.s .d0 .d0))], body :=
 (.seq
 (.reg [⟨(.at .d0 .d0), (.mv (.c (.bool false))), [(.c (.bool false))], .no, false, none⟩])
 (.seq
 (.reg [⟨(.at .d0 .d4), (.call 11 [(.c (.str 12 30481237578535094601129884513))]), [(.c (.str 12 30481237578535094601129884513))], .no, false, none⟩, ⟨(.at .d0 .d3), (.mv (.s 4)), [(.s .d0 .d4)], .no, false, none⟩, ⟨(.at .d0 .d5), (.ext 0 (.s 3)), [(.s .d0 .d3)], .no, false, none⟩, ⟨(.at .d0 .d6), (.ext 1 (.s 3)), [(.s .d0 .d3)], .no, false, none⟩, ⟨(.at .d0 .d1), (.mv (.s 5)), [(.s .d0 .d5)], .no, false, none⟩, ⟨(.at .d0 .d2), (.mv (.s 6)), [(.s .d0 .d6)], .no, false, none⟩])
 (.seq
 (.reg [⟨(.at .d0 .d7), (.mv (.s 2)), [(.s .d0 .d2)], .no, false, none⟩, ⟨(.at .d0 .d8), (.eq (.one .i) false (.s 7) (.c (.int .i64 (Int.ofNat 0)))), [(.s .d0 .d7), (.c (.int .i64 (Int.ofNat 0)))], .no, false, none⟩, ⟨(.at .d0 .d9), (.mv (.s 8)), [(.s .d0 .d8)], .no, false, none⟩, ⟨(.at .d0 .d10), (.mv (.s 1)), [(.s .d0 .d1)], (.on .d0 .d9 true), false, none⟩, ⟨(.at .d0 .d11), (.lenL (.s 10)), [(.s .d0 .d10)], (.on .d0 .d9 true), false, none⟩, ⟨(.at .d0 .d12), (.eq (.one .i) false (.s 11) (.c (.int .i64 (Int.ofNat 3)))), [(.s .d0 .d11), (.c (.int .i64 (Int.ofNat 3)))], (.on .d0 .d9 true), false, none⟩, ⟨(.at .d0 .d13), (.pick (.s 9) (.s 12) (.c (.bool false))), [(.s .d0 .d9), (.s .d0 .d12), (.c (.bool false))], .no, false, none⟩, ⟨(.at .d0 .d14), (.mv (.s 13)), [(.s .d0 .d13)], .no, false, none⟩, ⟨(.at .d0 .d15), (.mv (.s 1)), [(.s .d0 .d1)], (.on .d0 .d14 true), false, none⟩, ⟨(.at .d0 .d16), (.iaddrS 3 (.s 15) (.c (.int .i64 (Int.ofNat 1)))), [(.s .d0 .d15), (.c (.int .i64 (Int.ofNat 1)))], (.on .d0 .d14 true), false, none⟩, ⟨(.at .d0 .d17), (.faddr 0 (.s 16)), [(.s .d0 .d16)], (.on .d0 .d14 true), false, none⟩, ⟨(.at .d0 .d18), (.load1 (.s 17)), [(.s .d0 .d17)], (.on .d0 .d14 true), false, none⟩, ⟨(.at .d0 .d19), (.pick (.s 14) (.s 18) (.c (.bool false))), [(.s .d0 .d14), (.s .d0 .d18), (.c (.bool false))], .no, false, none⟩, ⟨(.at .d0 .d20), (.mv (.s 19)), [(.s .d0 .d19)], .no, false, none⟩, ⟨(.at .d0 .d21), (.mv (.s 1)), [(.s .d0 .d1)], (.on .d0 .d20 true), false, none⟩, ⟨(.at .d0 .d22), (.iaddrS 3 (.s 21) (.c (.int .i64 (Int.ofNat 1)))), [(.s .d0 .d21), (.c (.int .i64 (Int.ofNat 1)))], (.on .d0 .d20 true), false, none⟩, ⟨(.at .d0 .d23), (.faddr 1 (.s 22)), [(.s .d0 .d22)], (.on .d0 .d20 true), false, none⟩, ⟨(.at .d0 .d24), (.load1 (.s 23)), [(.s .d0 .d23)], (.on .d0 .d20 true), false, none⟩, ⟨(.at .d0 .d25), (.eq (.one .s) false (.s 24) (.c (.str 6 35332506329632))), [(.s .d0 .d24), (.c (.str 6 35332506329632))], (.on .d0 .d20 true), false, none⟩, ⟨(.at .d0 .d26), (.pick (.s 20) (.s 25) (.c (.bool false))), [(.s .d0 .d20), (.s .d0 .d25), (.c (.bool false))], .no, false, none⟩, ⟨(.at .d0 .d27), (.mv (.s 26)), [(.s .d0 .d26)], .no, false, none⟩, ⟨(.at .d0 .d28), (.mv (.s 1)), [(.s .d0 .d1)], (.on .d0 .d27 true), false, none⟩, ⟨(.at .d0 .d29), (.iaddrS 3 (.s 28) (.c (.int .i64 (Int.ofNat 2)))), [(.s .d0 .d28), (.c (.int .i64 (Int.ofNat 2)))], (.on .d0 .d27 true), false, none⟩, ⟨(.at .d0 .d30), (.faddr 2 (.s 29)), [(.s .d0 .d29)], (.on .d0 .d27 true), false, none⟩, ⟨(.at .d0 .d31), (.load1 (.s 30)), [(.s .d0 .d30)], (.on .d0 .d27 true), false, none⟩, ⟨(.at .d1 .d0), (.eq (.one .i) false (.s 31) (.c (.int .i64 (Int.ofNat 11)))), [(.s .d0 .d31), (.c (.int .i64 (Int.ofNat 11)))], (.on .d0 .d27 true), false, none⟩, ⟨(.at .d1 .d1), (.pick (.s 27) (.s 32) (.c (.bool false))), [(.s .d0 .d27), (.s .d1 .d0), (.c (.bool false))], .no, false, none⟩, ⟨(.at .d0 .d0), (.mv (.s 33)), [(.s .d1 .d1)], .no, false, none⟩])
 .ret))) }
theorem kf9_ok : (compFn Try.prog Try.f9 []).bind (toKFn 0) = some kf9 := by kernel_rfl
def kf11 : KFn := { params := [(.at .d0 .d0)], res := [(.s (.s .d0 .d2)), (.s (.s .d0 .d3))], body :=
 (.seq
 (.reg [⟨(.at .d0 .d2), (.mv (.c .snil)), [(.c .snil)], .no, false, none⟩, ⟨(.at .d0 .d3), (.mv (.c (.int .i64 (Int.ofNat 0)))), [(.c (.int .i64 (Int.ofNat 0)))], .no, false, none⟩])
 (.seq
 (.seq
 (.reg [⟨(.at .d0 .d7), (.mv (.s 0)), [(.s .d0 .d0)], .no, false, none⟩, ⟨(.at .d0 .d8), (.lenS (.s 7)), [(.s .d0 .d7)], .no, false, none⟩, ⟨(.at .d0 .d9), (.bin .gtr (.s 8) (.c (.int .i64 (Int.ofNat 1500)))), [(.s .d0 .d8), (.c (.int .i64 (Int.ofNat 1500)))], .no, false, none⟩])
 (.cond (.s .d0 .d9)
 (.seq
 (.reg [⟨(.at .d0 .d2), (.mv (.c .snil)), [(.c .snil)], .no, false, none⟩, ⟨(.at .d0 .d3), (.mv (.c (.int .i64 (Int.ofNat 4)))), [(.c (.int .i64 (Int.ofNat 4)))], .no, false, none⟩])
 .ret)
 .skip))
 (.seq
 (.reg [⟨(.at .d0 .d4), (.mv (.c .snil)), [(.c .snil)], .no, false, none⟩])
 (.seq
 (.seq
 (.reg [⟨(.at .d0 .d5), (.mv (.c (.int .i64 (Int.ofNat 0)))), [(.c (.int .i64 (Int.ofNat 0)))], .no, false, none⟩])
 (.block 0
 (.loop
 (.seq
 (.seq
 (.reg [⟨(.at .d0 .d10), (.mv (.s 5)), [(.s .d0 .d5)], .no, false, none⟩, ⟨(.at .d0 .d11), (.mv (.s 0)), [(.s .d0 .d0)], .no, false, none⟩, ⟨(.at .d0 .d12), (.lenS (.s 11)), [(.s .d0 .d11)], .no, false, none⟩, ⟨(.at .d0 .d13), (.bin .lss (.s 10) (.s 12)), [(.s .d0 .d10), (.s .d0 .d12)], .no, false, none⟩])
 (.cond (.s .d0 .d13)
 .skip
 (.exit 0)))
 (.block 1
 (.seq
 (.reg [⟨(.at .d0 .d14), (.mv (.s 0)), [(.s .d0 .d0)], .no, false, none⟩, ⟨(.at .d0 .d15), (.mv (.s 5)), [(.s .d0 .d5)], .no, false, none⟩, ⟨(.at .d0 .d16), (.cutS (.s 14) (some (.s 15)) none), [(.s .d0 .d14), (.s .d0 .d15)], .no, false, none⟩, ⟨(.at .d0 .d17), (.call 16 [(.s 16), (.c (.str 2 31611))]), [(.s .d0 .d16), (.c (.str 2 31611))], .no, false, none⟩, ⟨(.at .d0 .d6), (.mv (.s 17)), [(.s .d0 .d17)], .no, false, none⟩])
 (.seq
 (.seq
 (.reg [⟨(.at .d0 .d18), (.mv (.s 6)), [(.s .d0 .d6)], .no, false, none⟩, ⟨(.at .d0 .d19), (.bin .lss (.s 18) (.c (.int .i64 (Int.ofNat 0)))), [(.s .d0 .d18), (.c (.int .i64 (Int.ofNat 0)))], .no, false, none⟩])
 (.cond (.s .d0 .d19)
 (.reg [⟨(.at .d0 .d20), (.mv (.s 0)), [(.s .d0 .d0)], .no, false, none⟩, ⟨(.at .d0 .d21), (.lenS (.s 20)), [(.s .d0 .d20)], .no, false, none⟩, ⟨(.at .d0 .d22), (.mv (.s 5)), [(.s .d0 .d5)], .no, false, none⟩, ⟨(.at .d0 .d23), (.bin .sub (.s 21) (.s 22)), [(.s .d0 .d21), (.s .d0 .d22)], .no, false, none⟩, ⟨(.at .d0 .d6), (.mv (.s 23)), [(.s .d0 .d23)], .no, false, none⟩])
 .skip))
 (.seq
 (.seq
 (.reg [⟨(.at .d0 .d24), (.mv (.s 6)), [(.s .d0 .d6)], .no, false, none⟩, ⟨(.at .d0 .d25), (.bin .gtr (.s 24) (.c (.int .i64 (Int.ofNat 0)))), [(.s .d0 .d24), (.c (.int .i64 (Int.ofNat 0)))], .no, false, none⟩])
 (.cond (.s .d0 .d25)
 (.seq
 (.reg [⟨(.at .d0 .d26), (.mv (.s 4)), [(.s .d0 .d4)], .no, false, none⟩, ⟨(.at .d0 .d27), (.mv (.s 0)), [(.s .d0 .d0)], .no, false, none⟩, ⟨(.at .d0 .d28), (.mv (.s 5)), [(.s .d0 .d5)], .no, false, none⟩, ⟨(.at .d0 .d29), (.mv (.s 5)), [(.s .d0 .d5)], .no, false, none⟩, ⟨(.at .d0 .d30), (.mv (.s 6)), [(.s .d0 .d6)], .no, false, none⟩, ⟨(.at .d0 .d31), (.bin .add (.s 29) (.s 30)), [(.s .d0 .d29), (.s .d0 .d30)], .no, false, none⟩, ⟨(.at .d1 .d0), (.cutS (.s 27) (some (.s 28)) (some (.s 31))), [(.s .d0 .d27), (.s .d0 .d28), (.s .d0 .d31)], .no, false, none⟩, ⟨(.at .d1 .d1), (.mv (.s 5)), [(.s .d0 .d5)], .no, false, none⟩, ⟨(.at .d1 .d2), (.build [(.bool false), (.str 0 0), (.int .i64 (Int.ofNat 0))] [(1, 1, (.s 32)), (2, 1, (.s 33))]), [(.s .d1 .d0), (.s .d1 .d1)], .no, false, none⟩, ⟨(.at .d1 .d3), (.bsl 3 1 [(.bool false), (.str 0 0), (.int .i64 (Int.ofNat 0))] [(0, 3, (.s 34))]), [(.s .d1 .d2)], .no, false, none⟩, ⟨(.at .d1 .d4), (.app 3 (.s 26) (.s 35)), [(.s .d0 .d26), (.s .d1 .d3)], .no, false, none⟩, ⟨(.at .d0 .d4), (.mv (.s 36)), [(.s .d1 .d4)], .no, false, none⟩])
 (.seq
 (.reg [⟨(.at .d1 .d5), (.mv (.s 5)), [(.s .d0 .d5)], .no, false, none⟩, ⟨(.at .d1 .d6), (.mv (.s 6)), [(.s .d0 .d6)], .no, false, none⟩, ⟨(.at .d1 .d7), (.bin .add (.s 37) (.s 38)), [(.s .d1 .d5), (.s .d1 .d6)], .no, false, none⟩, ⟨(.at .d0 .d5), (.mv (.s 39)), [(.s .d1 .d7)], .no, false, none⟩])
 (.exit 1)))
 .skip))
 (.seq
 (.reg [⟨(.at .d1 .d8), (.mv (.s 0)), [(.s .d0 .d0)], .no, false, none⟩, ⟨(.at .d1 .d9), (.mv (.s 5)), [(.s .d0 .d5)], .no, false, none⟩, ⟨(.at .d1 .d10), (.bin .add (.s 41) (.c (.int .i64 (Int.ofNat 2)))), [(.s .d1 .d9), (.c (.int .i64 (Int.ofNat 2)))], .no, false, none⟩, ⟨(.at .d1 .d11), (.cutS (.s 40) (some (.s 42)) none), [(.s .d1 .d8), (.s .d1 .d10)], .no, false, none⟩, ⟨(.at .d1 .d12), (.call 17 [(.s 43)]), [(.s .d1 .d11)], .no, false, none⟩, ⟨(.at .d0 .d6), (.mv (.s 44)), [(.s .d1 .d12)], .no, false, none⟩])
 (.seq
 (.seq
 (.reg [⟨(.at .d1 .d13), (.mv (.s 6)), [(.s .d0 .d6)], .no, false, none⟩, ⟨(.at .d1 .d14), (.bin .lss (.s 45) (.c (.int .i64 (Int.ofNat 0)))), [(.s .d1 .d13), (.c (.int .i64 (Int.ofNat 0)))], .no, false, none⟩])
 (.cond (.s .d1 .d14)
 (.seq
 (.reg [⟨(.at .d0 .d2), (.mv (.c .snil)), [(.c .snil)], .no, false, none⟩, ⟨(.at .d0 .d3), (.mv (.c (.int .i64 (Int.ofNat 11)))), [(.c (.int .i64 (Int.ofNat 11)))], .no, false, none⟩])
 .ret)
 .skip))
 (.seq
 (.reg [⟨(.at .d1 .d15), (.mv (.s 4)), [(.s .d0 .d4)], .no, false, none⟩, ⟨(.at .d1 .d16), (.mv (.s 0)), [(.s .d0 .d0)], .no, false, none⟩, ⟨(.at .d1 .d17), (.mv (.s 5)), [(.s .d0 .d5)], .no, false, none⟩, ⟨(.at .d1 .d18), (.bin .add (.s 49) (.c (.int .i64 (Int.ofNat 2)))), [(.s .d1 .d17), (.c (.int .i64 (Int.ofNat 2)))], .no, false, none⟩, ⟨(.at .d1 .d19), (.mv (.s 5)), [(.s .d0 .d5)], .no, false, none⟩, ⟨(.at .d1 .d20), (.bin .add (.s 51) (.c (.int .i64 (Int.ofNat 2)))), [(.s .d1 .d19), (.c (.int .i64 (Int.ofNat 2)))], .no, false, none⟩, ⟨(.at .d1 .d21), (.mv (.s 6)), [(.s .d0 .d6)], .no, false, none⟩, ⟨(.at .d1 .d22), (.bin .add (.s 52) (.s 53)), [(.s .d1 .d20), (.s .d1 .d21)], .no, false, none⟩, ⟨(.at .d1 .d23), (.cutS (.s 48) (some (.s 50)) (some (.s 54))), [(.s .d1 .d16), (.s .d1 .d18), (.s .d1 .d22)], .no, false, none⟩, ⟨(.at .d1 .d24), (.mv (.s 5)), [(.s .d0 .d5)], .no, false, none⟩, ⟨(.at .d1 .d25), (.build [(.bool false), (.str 0 0), (.int .i64 (Int.ofNat 0))] [(0, 1, (.c (.bool true))), (1, 1, (.s 55)), (2, 1, (.s 56))]), [(.c (.bool true)), (.s .d1 .d23), (.s .d1 .d24)], .no, false, none⟩, ⟨(.at .d1 .d26), (.bsl 3 1 [(.bool false), (.str 0 0), (.int .i64 (Int.ofNat 0))] [(0, 3, (.s 57))]), [(.s .d1 .d25)], .no, false, none⟩, ⟨(.at .d1 .d27), (.app 3 (.s 47) (.s 58)), [(.s .d1 .d15), (.s .d1 .d26)], .no, false, none⟩, ⟨(.at .d0 .d4), (.mv (.s 59)), [(.s .d1 .d27)], .no, false, none⟩])
 (.reg [⟨(.at .d1 .d28), (.mv (.s 5)), [(.s .d0 .d5)], .no, false, none⟩, ⟨(.at .d1 .d29), (.mv (.s 6)), [(.s .d0 .d6)], .no, false, none⟩, ⟨(.at .d1 .d30), (.bin .add (.c (.int .i64 (Int.ofNat 2))) (.s 61)), [(.c (.int .i64 (Int.ofNat 2))), (.s .d1 .d29)], .no, false, none⟩, ⟨(.at .d1 .d31), (.bin .add (.s 62) (.c (.int .i64 (Int.ofNat 2)))), [(.s .d1 .d30), (.c (.int .i64 (Int.ofNat 2)))], .no, false, none⟩, ⟨(.at .d2 .d0), (.bin .add (.s 60) (.s 63)), [(.s .d1 .d28), (.s .d1 .d31)], .no, false, none⟩, ⟨(.at .d0 .d5), (.mv (.s 64)), [(.s .d2 .d0)], .no, false, none⟩]))))))))))))
 (.seq
 (.seq
 (.reg [⟨(.at .d2 .d1), (.mv (.s 4)), [(.s .d0 .d4)], .no, false, none⟩, ⟨(.at .d2 .d2), (.lenL (.s 65)), [(.s .d2 .d1)], .no, false, none⟩, ⟨(.at .d2 .d3), (.bin .gtr (.s 66) (.c (.int .i64 (Int.ofNat 200)))), [(.s .d2 .d2), (.c (.int .i64 (Int.ofNat 200)))], .no, false, none⟩])
 (.cond (.s .d2 .d3)
 (.seq
 (.reg [⟨(.at .d0 .d2), (.mv (.c .snil)), [(.c .snil)], .no, false, none⟩, ⟨(.at .d0 .d3), (.mv (.c (.int .i64 (Int.ofNat 3)))), [(.c (.int .i64 (Int.ofNat 3)))], .no, false, none⟩])
 .ret)
 .skip))
 (.seq
 (.reg [⟨(.at .d2 .d4), (.mv (.s 4)), [(.s .d0 .d4)], .no, false, none⟩, ⟨(.at .d0 .d2), (.mv (.s 68)), [(.s .d2 .d4)], .no, false, none⟩, ⟨(.at .d0 .d3), (.mv (.c (.int .i64 (Int.ofNat 0)))), [(.c (.int .i64 (Int.ofNat 0)))], .no, false, none⟩])
 .ret)))))) }
theorem kf11_ok : (compFn Try.prog Try.f11 [[0], [4], [0, 4, 5], [0, 4, 5], [0, 4, 5, 6], [0, 4, 5], [0, 4, 5, 6], [4]]).bind (toKFn 1) = some kf11 := by kernel_rfl
def kf17 : KFn := { params := [(.at .d0 .d0)], res := [(.s (.s .d0 .d2))], body :=
 (.seq
 (.reg [⟨(.at .d0 .d2), (.mv (.c (.int .i64 (Int.ofNat 0)))), [(.c (.int .i64 (Int.ofNat 0)))], .no, false, none⟩])
 (.seq
 (.reg [⟨(.at .d0 .d3), (.mv (.c (.bool false))), [(.c (.bool false))], .no, false, none⟩, ⟨(.at .d0 .d4), (.mv (.c (.int .i64 (Int.ofNat 0)))), [(.c (.int .i64 (Int.ofNat 0)))], .no, false, none⟩])
 (.seq
 (.seq
 (.reg [⟨(.at .d0 .d6), (.mv (.s 0)), [(.s .d0 .d0)], .no, false, none⟩, ⟨(.at .d0 .d7), (.lenS (.s 6)), [(.s .d0 .d6)], .no, false, none⟩, ⟨(.at .d0 .d8), (.mv (.c (.int .i64 (Int.ofNat 0)))), [(.c (.int .i64 (Int.ofNat 0)))], .no, false, none⟩])
 (.block 0
 (.loop
 (.seq
 (.reg [⟨(.at .d0 .d9), (.bin .lss (.s 8) (.s 7)), [(.s .d0 .d8), (.s .d0 .d7)], .no, false, none⟩])
 (.seq
 (.cond (.s .d0 .d9)
 .skip
 (.exit 0))
 (.seq
 (.block 1
 (.seq
 (.reg [⟨(.at .d0 .d10), (.mv (.s 8)), [(.s .d0 .d8)], .no, false, none⟩, ⟨(.at .d0 .d5), (.mv (.s 10)), [(.s .d0 .d10)], .no, false, none⟩])
 (.seq
 (.block 2
 (.seq
 (.reg [⟨(.at .d0 .d12), (.mv (.s 0)), [(.s .d0 .d0)], .no, false, none⟩, ⟨(.at .d0 .d13), (.mv (.s 5)), [(.s .d0 .d5)], .no, false, none⟩, ⟨(.at .d0 .d14), (.idxS (.s 12) (.s 13)), [(.s .d0 .d12), (.s .d0 .d13)], .no, false, none⟩, ⟨(.at .d0 .d15), (.eq (.one .i) false (.s 14) (.c (.int .u8 (Int.ofNat 34)))), [(.s .d0 .d14), (.c (.int .u8 (Int.ofNat 34)))], .no, false, none⟩, ⟨(.at .d0 .d16), (.mv (.s 15)), [(.s .d0 .d15)], .no, false, none⟩, ⟨(.at .d0 .d17), (.mv (.s 3)), [(.s .d0 .d3)], (.on .d0 .d16 true), false, none⟩, ⟨(.at .d0 .d18), (.not (.s 17)), [(.s .d0 .d17)], (.on .d0 .d16 true), false, none⟩, ⟨(.at .d0 .d19), (.mv (.s 18)), [(.s .d0 .d18)], (.on .d0 .d16 true), false, none⟩, ⟨(.at .d0 .d20), (.mv (.s 4)), [(.s .d0 .d4)], (.on .d0 .d19 false), false, none⟩, ⟨(.at .d0 .d21), (.bin .rem (.s 20) (.c (.int .i64 (Int.ofNat 2)))), [(.s .d0 .d20), (.c (.int .i64 (Int.ofNat 2)))], (.on .d0 .d19 false), false, none⟩, ⟨(.at .d0 .d22), (.eq (.one .i) false (.s 21) (.c (.int .i64 (Int.ofNat 0)))), [(.s .d0 .d21), (.c (.int .i64 (Int.ofNat 0)))], (.on .d0 .d19 false), false, none⟩, ⟨(.at .d0 .d23), (.pick (.s 19) (.c (.bool true)) (.s 22)), [(.s .d0 .d19), (.c (.bool true)), (.s .d0 .d22)], (.on .d0 .d16 true), false, none⟩, ⟨(.at .d0 .d24), (.pick (.s 16) (.s 23) (.c (.bool false))), [(.s .d0 .d16), (.s .d0 .d23), (.c (.bool false))], .no, false, none⟩, ⟨(.at .d0 .d11), (.mv (.s 24)), [(.s .d0 .d24)], .no, false, none⟩])
 (.cond (.s .d0 .d11)
 (.reg [⟨(.at .d0 .d25), (.mv (.s 3)), [(.s .d0 .d3)], .no, false, none⟩, ⟨(.at .d0 .d26), (.not (.s 25)), [(.s .d0 .d25)], .no, false, none⟩, ⟨(.at .d0 .d3), (.mv (.s 26)), [(.s .d0 .d26)], .no, false, none⟩])
 (.seq
 (.reg [⟨(.at .d0 .d28), (.mv (.s 3)), [(.s .d0 .d3)], .no, false, none⟩, ⟨(.at .d0 .d29), (.not (.s 28)), [(.s .d0 .d28)], .no, false, none⟩, ⟨(.at .d0 .d30), (.mv (.s 29)), [(.s .d0 .d29)], .no, false, none⟩, ⟨(.at .d0 .d31), (.mv (.s 0)), [(.s .d0 .d0)], (.on .d0 .d30 true), false, none⟩, ⟨(.at .d1 .d0), (.mv (.s 5)), [(.s .d0 .d5)], (.on .d0 .d30 true), false, none⟩, ⟨(.at .d1 .d1), (.cutS (.s 31) (some (.s 32)) none), [(.s .d0 .d31), (.s .d1 .d0)], (.on .d0 .d30 true), false, none⟩, ⟨(.at .d1 .d2), (.call 20 [(.s 33), (.c (.str 2 32125))]), [(.s .d1 .d1), (.c (.str 2 32125))], (.on .d0 .d30 true), false, none⟩, ⟨(.at .d1 .d3), (.pick (.s 30) (.s 34) (.c (.bool false))), [(.s .d0 .d30), (.s .d1 .d2), (.c (.bool false))], .no, false, none⟩, ⟨(.at .d0 .d27), (.mv (.s 35)), [(.s .d1 .d3)], .no, false, none⟩])
 (.cond (.s .d0 .d27)
 (.seq
 (.reg [⟨(.at .d1 .d4), (.mv (.s 5)), [(.s .d0 .d5)], .no, false, none⟩, ⟨(.at .d0 .d2), (.mv (.s 36)), [(.s .d1 .d4)], .no, false, none⟩])
 .ret)
 .skip)))))
 (.seq
 (.reg [⟨(.at .d1 .d5), (.mv (.s 0)), [(.s .d0 .d0)], .no, false, none⟩, ⟨(.at .d1 .d6), (.mv (.s 5)), [(.s .d0 .d5)], .no, false, none⟩, ⟨(.at .d1 .d7), (.idxS (.s 37) (.s 38)), [(.s .d1 .d5), (.s .d1 .d6)], .no, false, none⟩, ⟨(.at .d1 .d8), (.eq (.one .i) false (.s 39) (.c (.int .u8 (Int.ofNat 92)))), [(.s .d1 .d7), (.c (.int .u8 (Int.ofNat 92)))], .no, false, none⟩])
 (.cond (.s .d1 .d8)
 (.reg [⟨(.at .d1 .d9), (.mv (.s 4)), [(.s .d0 .d4)], .no, false, none⟩, ⟨(.at .d1 .d10), (.bin .add (.s 41) (.c (.int .i64 (Int.ofNat 1)))), [(.s .d1 .d9), (.c (.int .i64 (Int.ofNat 1)))], .no, false, none⟩, ⟨(.at .d0 .d4), (.mv (.s 42)), [(.s .d1 .d10)], .no, false, none⟩])
 (.reg [⟨(.at .d0 .d4), (.mv (.c (.int .i64 (Int.ofNat 0)))), [(.c (.int .i64 (Int.ofNat 0)))], .no, false, none⟩]))))))
 (.reg [⟨(.at .d1 .d11), (.bin .add (.s 8) (.c (.int .i64 (Int.ofNat 1)))), [(.s .d0 .d8), (.c (.int .i64 (Int.ofNat 1)))], .no, false, none⟩, ⟨(.at .d0 .d8), (.mv (.s 43)), [(.s .d1 .d11)], .no, false, none⟩])))))))
 (.seq
 (.reg [⟨(.at .d0 .d2), (.mv (.c (.int .i64 (Int.negSucc 0)))), [(.c (.int .i64 (Int.negSucc 0)))], .no, false, none⟩])
 .ret)))) }
theorem kf17_ok : (compFn Try.prog Try.f17 [[], [0, 3, 4, 7, 8], [0, 3, 4, 7, 8], [0, 3, 4, 7, 8], [0, 3, 4, 5, 7, 8]]).bind (toKFn 1) = some kf17 := by kernel_rfl
def kf20 : KFn := { params := [(.at .d0 .d0), (.at .d0 .d1)], res := [(.s (.s .d0 .d4))], body :=
 (.seq
 (.reg [⟨(.at .d0 .d4), (.mv (.c (.bool false))), [(.c (.bool false))], .no, false, none⟩])
 (.seq
 (.reg [⟨(.at .d0 .d5), (.mv (.s 0)), [(.s .d0 .d0)], .no, false, none⟩, ⟨(.at .d0 .d6), (.mv (.s 1)), [(.s .d0 .d1)], .no, false, none⟩, ⟨(.at .d0 .d7), (.call 25 [(.s 5), (.s 6)]), [(.s .d0 .d5), (.s .d0 .d6)], .no, false, none⟩, ⟨(.at .d0 .d4), (.mv (.s 7)), [(.s .d0 .d7)], .no, false, none⟩])
 .ret)) }
theorem kf20_ok : (compFn Try.prog Try.f20 []).bind (toKFn 2) = some kf20 := by kernel_rfl
def kf25 : KFn := { params := [(.at .d0 .d0), (.at .d0 .d1)], res := [(.s (.s .d0 .d4))], body :=
 (.seq
 (.reg [⟨(.at .d0 .d4), (.mv (.c (.bool false))), [(.c (.bool false))], .no, false, none⟩])
 (.seq
 (.reg [⟨(.at .d0 .d5), (.mv (.s 0)), [(.s .d0 .d0)], .no, false, none⟩, ⟨(.at .d0 .d6), (.lenS (.s 5)), [(.s .d0 .d5)], .no, false, none⟩, ⟨(.at .d0 .d7), (.mv (.s 1)), [(.s .d0 .d1)], .no, false, none⟩, ⟨(.at .d0 .d8), (.lenS (.s 7)), [(.s .d0 .d7)], .no, false, none⟩, ⟨(.at .d0 .d9), (.bin .geq (.s 6) (.s 8)), [(.s .d0 .d6), (.s .d0 .d8)], .no, false, none⟩, ⟨(.at .d0 .d10), (.mv (.s 9)), [(.s .d0 .d9)], .no, false, none⟩, ⟨(.at .d0 .d11), (.mv (.s 0)), [(.s .d0 .d0)], (.on .d0 .d10 true), false, none⟩, ⟨(.at .d0 .d12), (.mv (.s 1)), [(.s .d0 .d1)], (.on .d0 .d10 true), false, none⟩, ⟨(.at .d0 .d13), (.lenS (.s 12)), [(.s .d0 .d12)], (.on .d0 .d10 true), false, none⟩, ⟨(.at .d0 .d14), (.cutS (.s 11) none (some (.s 13))), [(.s .d0 .d11), (.s .d0 .d13)], (.on .d0 .d10 true), false, none⟩, ⟨(.at .d0 .d15), (.mv (.s 1)), [(.s .d0 .d1)], (.on .d0 .d10 true), false, none⟩, ⟨(.at .d0 .d16), (.eq (.one .s) false (.s 14) (.s 15)), [(.s .d0 .d14), (.s .d0 .d15)], (.on .d0 .d10 true), false, none⟩, ⟨(.at .d0 .d17), (.pick (.s 10) (.s 16) (.c (.bool false))), [(.s .d0 .d10), (.s .d0 .d16), (.c (.bool false))], .no, false, none⟩, ⟨(.at .d0 .d4), (.mv (.s 17)), [(.s .d0 .d17)], .no, false, none⟩])
 .ret)) }
theorem kf25_ok : (compFn Try.prog Try.f25 []).bind (toKFn 2) = some kf25 := by kernel_rfl

theorem within13_calls (a n : Int) (w : World) (h0 : 0 < n) (h1 : n < 1000000) : Calls Try.prog 13 #[.int .i64 a, .int .i64 n] w fun e w' => e = .returned (.int .i64 (a % n)) ∧ Below w.heap.size w w' := by
  have hn : ¬n = 0 := by omega
  go_enter Try.func13, Try.ntmps13
  go_wp2
  all_goals go_ret
  all_goals refine ⟨?_, Below.refl _ _⟩
  all_goals have hb1 := Int.emod_nonneg a hn
  all_goals have hb2 := Int.emod_lt_of_pos a h0
  all_goals have hw : wrap64 (a % n) = a % n := by unfold wrap64; omega
  all_goals rename_i hc
  all_goals rcases tmod_cases a h0 with ⟨h3, h4⟩ | ⟨h3, h4⟩
  · exact absurd hc (by omega)
  · show Ending.returned (.int .i64 (wrap64 (a.tmod n + n))) = _
    rw [h4, hw]
  · show Ending.returned (.int .i64 (a.tmod n)) = _
    rw [h4]
  · exact absurd hc (by omega)
theorem mixed : Try.prog.follows .mixedOrders = true := by kernel_rfl
noncomputable def tabA : BT :=
  (.node 16 (.node 9 (.leaf 9 (compE 100000 Try.prog Try.f9 [] kf9))
  (.node 11 (.leaf 11 (compE 100000 Try.prog Try.f11 [[0], [4], [0, 4, 5], [0, 4, 5], [0, 4, 5, 6], [0, 4, 5], [0, 4, 5, 6], [4]] kf11))
  (.leaf 16 (hookE indexG))))
  (.node 17 (.leaf 17 (compE 100000 Try.prog Try.f17 [[], [0, 3, 4, 7, 8], [0, 3, 4, 7, 8], [0, 3, 4, 7, 8], [0, 3, 4, 5, 7, 8]] kf17))
  (.node 20 (.leaf 20 (compE 100000 Try.prog Try.f20 [] kf20))
  (.leaf 25 (compE 100000 Try.prog Try.f25 [] kf25)))))
theorem tabA_K : tabA.all fun _ e => BodyKOK e.k e.b := ⟨⟨compE_K kf9_ok, ⟨compE_K kf11_ok, hookE_K _⟩⟩, ⟨compE_K kf17_ok, ⟨compE_K kf20_ok, compE_K kf25_ok⟩⟩⟩
theorem tabA_B {ρ : Nat → Value} {W : World} (hρ : ∀ i, (ρ i).oneCell' = true) (hm : hasM 0 W) : tabA.all fun i e => BodyOK Try.prog ρ ⟨W.heap.size, W⟩ i e.b :=
  have hh : HypOK ρ [] := hyp_nil ρ
  ⟨⟨compE_B kf9_ok Try.func9 (by decide) hρ mixed, ⟨compE_B kf11_ok Try.func11 (by decide) hρ mixed, indexE_B Try.func16 (by kernel_rfl) (by decide) hm fun s sub m w hs hm => Try.strings_Index s sub m w hs hm⟩⟩, ⟨compE_B kf17_ok Try.func17 (by decide) hρ mixed, ⟨compE_B kf20_ok Try.func20 (by decide) hρ mixed, compE_B kf25_ok Try.func25 (by decide) hρ mixed⟩⟩⟩
theorem known_check : check tabA 1000 9 [] = true := by kernel_rfl
theorem known_calls (w : World) (hm : hasM 0 w) : Calls Try.prog 9 #[] w fun e w' => e = .returned (.bool true) ∧ Below w.heap.size w w' :=
  check_call (ρ := fun _ => .bool false) tabA_K (tabA_B (fun _ => rfl) hm) known_check (xs := []) rfl
noncomputable def tab (hyp : List (Nat × Nat × Nat)) : BT :=
  (.node 13 (.node 9 (.node 5 (.leaf 5 (compE 100000 Try.prog Try.f5 [[0, 1], [0, 1, 5], [0, 1, 5, 6], [0, 1, 5, 6], [0, 1, 5, 6], [0, 1, 7], [8, 9]] kf5))
  (.leaf 9 (hookE trueG)))
  (.node 11 (.leaf 11 (compE 100000 Try.prog Try.f11 [[0], [4], [0, 4, 5], [0, 4, 5], [0, 4, 5, 6], [0, 4, 5], [0, 4, 5, 6], [4]] kf11))
  (.leaf 13 (hookE (withinG hyp)))))
  (.node 17 (.node 16 (.leaf 16 (hookE indexG))
  (.leaf 17 (compE 100000 Try.prog Try.f17 [[], [0, 3, 4, 7, 8], [0, 3, 4, 7, 8], [0, 3, 4, 7, 8], [0, 3, 4, 5, 7, 8]] kf17)))
  (.node 20 (.leaf 20 (compE 100000 Try.prog Try.f20 [] kf20))
  (.leaf 25 (compE 100000 Try.prog Try.f25 [] kf25)))))
theorem tab_K (hyp : List (Nat × Nat × Nat)) : (tab hyp).all fun _ e => BodyKOK e.k e.b := ⟨⟨⟨compE_K kf5_ok, hookE_K _⟩, ⟨compE_K kf11_ok, hookE_K _⟩⟩, ⟨⟨hookE_K _, compE_K kf17_ok⟩, ⟨compE_K kf20_ok, compE_K kf25_ok⟩⟩⟩
theorem tab_B {ρ : Nat → Value} {W : World} {hyp : List (Nat × Nat × Nat)} (hρ : ∀ i, (ρ i).oneCell' = true) (hm : hasM 0 W) (hh : HypOK ρ hyp) : (tab hyp).all fun i e => BodyOK Try.prog ρ ⟨W.heap.size, W⟩ i e.b :=
  ⟨⟨⟨compE_B kf5_ok Try.func5 (by decide) hρ mixed, trueE_B Try.func9 (by kernel_rfl) (by decide) hm known_calls⟩, ⟨compE_B kf11_ok Try.func11 (by decide) hρ mixed, withinE_B Try.func13 (by kernel_rfl) (by decide) hh within13_calls⟩⟩, ⟨⟨indexE_B Try.func16 (by kernel_rfl) (by decide) hm fun s sub m w hs hm => Try.strings_Index s sub m w hs hm, compE_B kf17_ok Try.func17 (by decide) hρ mixed⟩, ⟨compE_B kf20_ok Try.func20 (by decide) hρ mixed, compE_B kf25_ok Try.func25 (by decide) hρ mixed⟩⟩⟩
end Go.Proofs.Ytfcdghdipkgpfaa
