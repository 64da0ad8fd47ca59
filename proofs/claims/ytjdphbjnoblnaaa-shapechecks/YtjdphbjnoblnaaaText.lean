/- The code of functions, as the evaluator has it; a table of them. No condition. -/
import Derived.Test.YtjdphbjnoblnaaaRows
import Derived.Test.YtjdphbjnoblnaaaShelf
import Derived.WalkKit
import Derived.Test.YtjdphbjnoblnaaaEvd9
namespace Go.Proofs.Ytjdphbjnoblnaaa
open Eva Go.RowKit
set_option maxRecDepth 100000
/- sprue/spruelaw4.ShapeChecks -/
def cf_spruelaw4_ShapeChecks : Eva.Fn := { ntmps := 161, res := [(.s 16)], body :=
 (.seq
 (.reg [iq 8 (.box (.s 0)),
 iq 9 (.box (.s 1)),
 iq 15 (.box (.s 7)),
 iq 16 (.mv (.c (.bool false)))])
 (.seqj [2, 3, 4, 5, 6, 8, 9, 15]
 (.seq
 (.reg [iq 19 (.call 5 []),
 iq 20 (.not (.s 19))])
 (.cond (.s 20)
 (.seq
 (.reg [iq 16 (.mv (.c (.bool false)))])
 .ret)
 .skip))
 (.seqj [2, 3, 4, 5, 6, 8, 9, 15]
 (.seq
 (.reg [iq 21 (.loadn 4 (.s 9)),
 iq 22 (.mv (.s 2)),
 iq 23 (.mv (.s 3)),
 iq 24 (.call 6 [(.s 21), (.s 22), (.s 23)]),
 iq 25 (.not (.s 24)),
 iq 26 (.mv (.s 25)),
 ig 27 26 false (.loadn 6 (.s 8)),
 ig 28 26 false (.call 7 [(.s 27)]),
 ig 29 26 false (.not (.s 28)),
 iq 30 (.pick (.s 26) (.c (.bool true)) (.s 29)),
 iq 31 (.mv (.s 30)),
 ig 32 31 false (.mv (.s 6)),
 ig 33 31 false (.lenS (.s 32)),
 ig 34 31 false (.bin .gtr (.s 33) (.c (.int .i64 (50)))),
 iq 35 (.pick (.s 31) (.c (.bool true)) (.s 34)),
 iq 36 (.mv (.s 35)),
 ig 37 36 false (.loadn 4 (.s 15)),
 ig 38 36 false (.call 8 [(.s 37), (.c (.int .i64 (100)))]),
 ig 39 36 false (.bin .geq (.s 38) (.c (.int .i64 (100)))),
 iq 40 (.pick (.s 36) (.c (.bool true)) (.s 39))])
 (.cond (.s 40)
 (.seq
 (.reg [iq 16 (.mv (.c (.bool true)))])
 .ret)
 .skip))
 (.seq
 (.reg [iq 41 (.loadn 4 (.s 9)),
 iq 42 (.mv (.s 2)),
 iq 43 (.mv (.s 3)),
 iq 44 (.call 9 [(.s 41), (.s 42), (.s 43)]),
 iq 17 (.alloc [(.int .i64 (0)), (ofL []), .snil, .snil, .snil, .snil]),
 iz (.store 6 (.s 17) (.s 44))])
 (.seqj [4, 5, 6, 15, 17]
 (.seq
 (.drw [iq 45 (.loadn 6 (.s 8)),
 iq 46 (.call 10 [(.s 45)]),
 iq 47 (.loadn 6 (.s 8)),
 ⟨(some 48), (.call 11 [(.s 47)]), none, (some [])⟩,
 iq 49 (.eq (.one .i) true (.s 46) (.s 48)),
 iq 50 (.mv (.s 49)),
 ig 51 50 false (.loadn 6 (.s 17)),
 ig 52 50 false (.call 10 [(.s 51)]),
 ig 53 50 false (.loadn 6 (.s 17)),
 ⟨(some 54), (.call 11 [(.s 53)]), (some (50, false)), (some [])⟩,
 ig 55 50 false (.eq (.one .i) true (.s 52) (.s 54)),
 iq 56 (.pick (.s 50) (.c (.bool true)) (.s 55))] [])
 (.cond (.s 56)
 (.seq
 (.reg [iq 16 (.mv (.c (.bool false)))])
 .ret)
 .skip))
 (.seqj [17]
 (.seq
 (.reg [iq 57 (.mv (.s 4)),
 iq 58 (.call 12 [(.s 57), (.c (.int .i64 (7)))])])
 (.block 0
 (.seq
 (.reg [iq 60 (.eq (.one .i) false (.s 58) (.c (.int .i64 (0)))),
 iq 59 (.mv (.s 60))])
 (.cond (.s 59)
 (.reg [iq 61 (.loadn 4 (.s 15)),
 iq 62 (.faddr 0 (.s 17)),
 iz (.store 4 (.s 62) (.s 61))])
 (.seq
 (.reg [iq 64 (.eq (.one .i) false (.s 58) (.c (.int .i64 (1)))),
 iq 63 (.mv (.s 64))])
 (.cond (.s 63)
 (.seq
 (.reg [iq 65 (.faddr 4 (.s 17)),
 iq 66 (.load1 (.s 65)),
 iq 67 (.lenL (.s 66)),
 iq 68 (.bin .gtr (.s 67) (.c (.int .i64 (0))))])
 (.cond (.s 68)
 (.drw [iq 69 (.faddr 4 (.s 17)),
 iq 70 (.load1 (.s 69)),
 iq 71 (.mv (.s 5)),
 iq 72 (.faddr 4 (.s 17)),
 iq 73 (.load1 (.s 72)),
 iq 74 (.lenL (.s 73)),
 ⟨(some 75), (.call 12 [(.s 71), (.s 74)]), none, (some [69])⟩,
 iq 76 (.mv (.s 6)),
 iq 77 (.iaddrS 5 (.s 70) (.s 75)),
 iq 78 (.faddr 0 (.s 77)),
 iz (.store 1 (.s 78) (.s 76))] [])
 .skip))
 (.seq
 (.reg [iq 80 (.eq (.one .i) false (.s 58) (.c (.int .i64 (2)))),
 iq 79 (.mv (.s 80))])
 (.cond (.s 79)
 (.seq
 (.reg [iq 81 (.faddr 4 (.s 17)),
 iq 82 (.load1 (.s 81)),
 iq 83 (.lenL (.s 82)),
 iq 84 (.bin .gtr (.s 83) (.c (.int .i64 (0))))])
 (.cond (.s 84)
 (.drw [iq 85 (.faddr 4 (.s 17)),
 iq 86 (.load1 (.s 85)),
 iq 87 (.mv (.s 5)),
 iq 88 (.faddr 4 (.s 17)),
 iq 89 (.load1 (.s 88)),
 iq 90 (.lenL (.s 89)),
 iq 91 (.call 12 [(.s 87), (.s 90)]),
 iq 92 (.loadn 4 (.s 15)),
 iq 93 (.iaddrS 5 (.s 86) (.s 91)),
 iq 94 (.faddr 1 (.s 93)),
 iz (.store 4 (.s 94) (.s 92))] [])
 .skip))
 (.seq
 (.reg [iq 96 (.eq (.one .i) false (.s 58) (.c (.int .i64 (3)))),
 iq 95 (.mv (.s 96))])
 (.cond (.s 95)
 (.seq
 (.reg [iq 97 (.faddr 5 (.s 17)),
 iq 98 (.load1 (.s 97)),
 iq 99 (.lenL (.s 98)),
 iq 100 (.bin .gtr (.s 99) (.c (.int .i64 (0))))])
 (.cond (.s 100)
 (.drw [iq 101 (.faddr 5 (.s 17)),
 iq 102 (.load1 (.s 101)),
 iq 103 (.mv (.s 5)),
 iq 104 (.faddr 5 (.s 17)),
 iq 105 (.load1 (.s 104)),
 iq 106 (.lenL (.s 105)),
 ⟨(some 107), (.call 12 [(.s 103), (.s 106)]), none, (some [101])⟩,
 iq 108 (.mv (.s 6)),
 iq 109 (.iaddrS 6 (.s 102) (.s 107)),
 iq 110 (.faddr 0 (.s 109)),
 iz (.store 1 (.s 110) (.s 108))] [])
 .skip))
 (.seq
 (.reg [iq 112 (.eq (.one .i) false (.s 58) (.c (.int .i64 (4)))),
 iq 111 (.mv (.s 112))])
 (.cond (.s 111)
 (.seq
 (.reg [iq 113 (.faddr 5 (.s 17)),
 iq 114 (.load1 (.s 113)),
 iq 115 (.lenL (.s 114)),
 iq 116 (.bin .gtr (.s 115) (.c (.int .i64 (0))))])
 (.cond (.s 116)
 (.seq
 (.reg [iq 117 (.mv (.s 5)),
 iq 118 (.faddr 5 (.s 17)),
 iq 119 (.load1 (.s 118)),
 iq 120 (.lenL (.s 119)),
 iq 121 (.call 12 [(.s 117), (.s 120)]),
 iq 18 (.mv (.s 121))])
 (.drw [iq 122 (.faddr 5 (.s 17)),
 iq 123 (.load1 (.s 122)),
 iq 124 (.mv (.s 18)),
 iq 125 (.bsl 4 0 [] []),
 iq 126 (.faddr 5 (.s 17)),
 iq 127 (.load1 (.s 126)),
 iq 128 (.mv (.s 18)),
 iq 129 (.iaddrS 6 (.s 127) (.s 128)),
 iq 130 (.faddr 1 (.s 129)),
 iq 131 (.load1 (.s 130)),
 iq 132 (.app 4 (.s 125) (.s 131)),
 iq 133 (.loadn 4 (.s 15)),
 iq 134 (.loadn 4 (.s 15)),
 iq 135 (.bsl 4 2 [(.int .i64 (0)), (ofL []), .snil, .snil, (.int .i64 (0)), (ofL []), .snil, .snil] [(0, 4, (.s 133)), (4, 4, (.s 134))]),
 iq 136 (.app 4 (.s 132) (.s 135)),
 iq 137 (.iaddrS 6 (.s 123) (.s 124)),
 iq 138 (.faddr 1 (.s 137)),
 iz (.store 1 (.s 138) (.s 136))] [([125], [122]), ([125], [15]), ([125], [15]), ([132], [122])]))
 .skip))
 (.seq
 (.reg [iq 140 (.eq (.one .i) false (.s 58) (.c (.int .i64 (5)))),
 iq 139 (.mv (.s 140))])
 (.cond (.s 139)
 (.reg [iq 141 (.faddr 4 (.s 17)),
 iq 142 (.load1 (.s 141)),
 iq 143 (.mv (.s 6)),
 iq 144 (.loadn 4 (.s 15)),
 iq 145 (.build [(ofL []), (.int .i64 (0)), (ofL []), .snil, .snil] [(0, 1, (.s 143)), (1, 4, (.s 144))]),
 iq 146 (.bsl 5 1 [(ofL []), (.int .i64 (0)), (ofL []), .snil, .snil] [(0, 5, (.s 145))]),
 iq 147 (.app 5 (.s 142) (.s 146)),
 iq 148 (.faddr 4 (.s 17)),
 iz (.store 1 (.s 148) (.s 147))])
 (.seq
 (.reg [iq 150 (.eq (.one .i) false (.s 58) (.c (.int .i64 (6)))),
 iq 149 (.mv (.s 150))])
 (.cond (.s 149)
 (.reg [iq 151 (.faddr 0 (.s 17)),
 iq 152 (.loadn 4 (.s 151)),
 iq 153 (.bsl 4 1 [(.int .i64 (0)), (ofL []), .snil, .snil] [(0, 4, (.s 152))]),
 iq 154 (.build [(.int .i64 (0)), (ofL []), .snil, .snil] [(0, 1, (.c (.int .i64 (6)))), (3, 1, (.s 153))]),
 iq 155 (.faddr 0 (.s 17)),
 iz (.store 4 (.s 155) (.s 154))])
 .skip))))))))))))))))
 (.seq
 (.drw [iq 156 (.loadn 6 (.s 17)),
 iq 157 (.call 10 [(.s 156)]),
 iq 158 (.loadn 6 (.s 17)),
 ⟨(some 159), (.call 11 [(.s 158)]), none, (some [])⟩,
 iq 160 (.eq (.one .i) false (.s 157) (.s 159)),
 iq 16 (.mv (.s 160))] [])
 .ret))))))) }
theorem cf3_ok : compFn Try.prog Try.f3 [[2, 3, 4, 5, 6, 8, 9, 15], [2, 3, 4, 5, 6, 8, 9, 15], [4, 5, 6, 15, 17], [17]] = some cf_spruelaw4_ShapeChecks := by kernel_rfl
/- sprue/spruelaw4.known -/
def cf_spruelaw4_known : Eva.Fn := { ntmps := 26, res := [(.s 0)], body :=
 (.seq
 (.reg [iq 0 (.mv (.c (.bool false)))])
 (.seq
 (.reg [iq 3 (.build [(.int .i64 (0)), (ofL []), .snil, .snil] [(0, 1, (.c (.int .i64 (9)))), (1, 1, (.c (ofL [65])))]),
 iq 1 (.alloc [(.int .i64 (0)), (ofL []), .snil, .snil]),
 iz (.store 4 (.s 1) (.s 3))])
 (.seq
 (.reg [iq 4 (.bsl 1 1 [(ofL [])] [(0, 1, (.c (ofL [110, 101, 120, 116])))]),
 iq 5 (.loadn 4 (.s 1)),
 iq 6 (.bsl 4 1 [(.int .i64 (0)), (ofL []), .snil, .snil] [(0, 4, (.s 5))]),
 iq 7 (.build [(.int .i64 (0)), (ofL []), .snil, .snil] [(0, 1, (.c (.int .i64 (6)))), (3, 1, (.s 6))]),
 iq 8 (.bsl 4 1 [(.int .i64 (0)), (ofL []), .snil, .snil] [(0, 4, (.s 7))]),
 iq 9 (.build [(.int .i64 (0)), (ofL []), .snil, .snil] [(0, 1, (.c (.int .i64 (7)))), (2, 1, (.s 4)), (3, 1, (.s 8))]),
 iq 2 (.alloc [(.int .i64 (0)), (ofL []), .snil, .snil]),
 iz (.store 4 (.s 2) (.s 9))])
 (.seq
 (.reg [iq 10 (.loadn 4 (.s 1)),
 iq 11 (.loadn 4 (.s 1)),
 iq 12 (.build [(ofL []), (.int .i64 (0)), (ofL []), .snil, .snil] [(0, 1, (.c (ofL [65]))), (1, 4, (.s 11))]),
 iq 13 (.bsl 5 1 [(ofL []), (.int .i64 (0)), (ofL []), .snil, .snil] [(0, 5, (.s 12))]),
 iq 14 (.build [(.int .i64 (0)), (ofL []), .snil, .snil, .snil, .snil] [(0, 4, (.s 10)), (4, 1, (.s 13))]),
 iq 15 (.call 10 [(.s 14)]),
 iq 16 (.eq (.one .i) false (.s 15) (.c (.int .i64 (14)))),
 iq 17 (.mv (.s 16)),
 ig 18 17 true (.loadn 4 (.s 1)),
 ig 19 17 true (.loadn 4 (.s 2)),
 ig 20 17 true (.build [(ofL []), (.int .i64 (0)), (ofL []), .snil, .snil] [(0, 1, (.c (ofL [65]))), (1, 4, (.s 19))]),
 ig 21 17 true (.bsl 5 1 [(ofL []), (.int .i64 (0)), (ofL []), .snil, .snil] [(0, 5, (.s 20))]),
 ig 22 17 true (.build [(.int .i64 (0)), (ofL []), .snil, .snil, .snil, .snil] [(0, 4, (.s 18)), (4, 1, (.s 21))]),
 ig 23 17 true (.call 10 [(.s 22)]),
 ig 24 17 true (.eq (.one .i) false (.s 23) (.c (.int .i64 (0)))),
 iq 25 (.pick (.s 17) (.s 24) (.c (.bool false))),
 iq 0 (.mv (.s 25))])
 .ret)))) }
theorem cf5_ok : compFn Try.prog Try.f5 [] = some cf_spruelaw4_known := by kernel_rfl
/- sprue/shape.Check -/
def cf_shape_Check : Eva.Fn := { ntmps := 79, res := [(.s 2)], body :=
 (.seq
 (.reg [iq 1 (.box (.s 0)),
 iq 2 (.mv (.c (.int .i64 (0))))])
 (.seqj [1]
 (.seq
 (.reg [iq 12 (.faddr 4 (.s 1)),
 iq 13 (.load1 (.s 12)),
 iq 14 (.lenL (.s 13)),
 iq 15 (.bin .gtr (.s 14) (.c (.int .i64 (12)))),
 iq 16 (.mv (.s 15)),
 ig 17 16 false (.faddr 5 (.s 1)),
 ig 18 16 false (.load1 (.s 17)),
 ig 19 16 false (.lenL (.s 18)),
 ig 20 16 false (.bin .gtr (.s 19) (.c (.int .i64 (12)))),
 iq 21 (.pick (.s 16) (.c (.bool true)) (.s 20))])
 (.cond (.s 21)
 (.seq
 (.reg [iq 2 (.mv (.c (.int .i64 (3))))])
 .ret)
 .skip))
 (.seqj [1]
 (.seq
 (.reg [iq 22 (.faddr 4 (.s 1)),
 iq 23 (.load1 (.s 22)),
 iq 24 (.call 17 [(.s 23)]),
 iq 3 (.mv (.s 24))])
 (.seq
 (.reg [iq 25 (.mv (.s 3)),
 iq 26 (.eq (.one .i) true (.s 25) (.c (.int .i64 (0))))])
 (.cond (.s 26)
 (.seq
 (.reg [iq 27 (.mv (.s 3)),
 iq 2 (.mv (.s 27))])
 .ret)
 .skip)))
 (.seq
 (.reg [iq 28 (.loadn 6 (.s 1)),
 iq 29 (.call 18 [(.s 28)]),
 iq 30 (.build [.mnil, (.int .i64 (0))] [(0, 1, (.s 29))]),
 iq 31 (.box (.s 30)),
 iq 4 (.mv (.s 31))])
 (.seqj [1, 4]
 (.seq
 (.reg [iq 32 (.faddr 4 (.s 1)),
 iq 33 (.load1 (.s 32)),
 iq 34 (.lenL (.s 33)),
 iq 35 (.mv (.c (.int .i64 (0))))])
 (.block 0
 (.loop [1, 4, 33, 34, 35]
 (.seq
 (.reg [iq 36 (.bin .lss (.s 35) (.s 34))])
 (.seqj [1, 4, 33, 34, 35]
 (.cond (.s 36)
 .skip
 (.exit 0))
 (.seqj [1, 4, 33, 34, 35]
 (.block 1
 (.seq
 (.reg [iq 37 (.iaddrS 5 (.s 33) (.s 35)),
 iq 38 (.loadn 5 (.s 37)),
 iq 6 (.alloc [(ofL []), (.int .i64 (0)), (ofL []), .snil, .snil]),
 iz (.store 5 (.s 6) (.s 38))])
 (.seq
 (.reg [iq 39 (.mv (.s 4)),
 iq 40 (.faddr 1 (.s 6)),
 iq 41 (.loadn 4 (.s 40)),
 iq 42 (.call 19 [(.s 39), (.s 41), (.c (.int .i64 (1)))]),
 iq 7 (.mv (.s 42))])
 (.seq
 (.reg [iq 43 (.mv (.s 7)),
 iq 44 (.eq (.one .i) true (.s 43) (.c (.int .i64 (0))))])
 (.cond (.s 44)
 (.seq
 (.reg [iq 45 (.mv (.s 7)),
 iq 2 (.mv (.s 45))])
 .ret)
 .skip)))))
 (.reg [iq 46 (.bin .add (.s 35) (.c (.int .i64 (1)))),
 iq 35 (.mv (.s 46))])))))))
 (.seqj [1, 4]
 (.seq
 (.reg [iq 47 (.mv (.s 4)),
 iq 48 (.faddr 0 (.s 1)),
 iq 49 (.loadn 4 (.s 48)),
 iq 50 (.call 19 [(.s 47), (.s 49), (.c (.int .i64 (1)))]),
 iq 8 (.mv (.s 50))])
 (.seq
 (.reg [iq 51 (.mv (.s 8)),
 iq 52 (.eq (.one .i) true (.s 51) (.c (.int .i64 (0))))])
 (.cond (.s 52)
 (.seq
 (.reg [iq 53 (.mv (.s 8)),
 iq 2 (.mv (.s 53))])
 .ret)
 .skip)))
 (.seqj [1, 4]
 (.seq
 (.reg [iq 54 (.mv (.s 4)),
 iq 55 (.faddr 5 (.s 1)),
 iq 56 (.load1 (.s 55)),
 iq 57 (.call 20 [(.s 54), (.s 56)]),
 iq 9 (.mv (.s 57))])
 (.seq
 (.reg [iq 58 (.mv (.s 9)),
 iq 59 (.eq (.one .i) true (.s 58) (.c (.int .i64 (0))))])
 (.cond (.s 59)
 (.seq
 (.reg [iq 60 (.mv (.s 9)),
 iq 2 (.mv (.s 60))])
 .ret)
 .skip)))
 (.seqj [1, 4]
 (.seq
 (.reg [iq 61 (.faddr 4 (.s 1)),
 iq 62 (.load1 (.s 61)),
 iq 63 (.lenL (.s 62)),
 iq 64 (.mv (.c (.int .i64 (0))))])
 (.block 2
 (.loop [1, 4, 62, 63, 64]
 (.seq
 (.reg [iq 65 (.bin .lss (.s 64) (.s 63))])
 (.seqj [1, 4, 62, 63, 64]
 (.cond (.s 65)
 .skip
 (.exit 2))
 (.seqj [1, 4, 62, 63, 64]
 (.block 3
 (.seq
 (.reg [iq 66 (.iaddrS 5 (.s 62) (.s 64)),
 iq 67 (.loadn 5 (.s 66)),
 iq 11 (.alloc [(ofL []), (.int .i64 (0)), (ofL []), .snil, .snil]),
 iz (.store 5 (.s 11) (.s 67))])
 (.seq
 (.reg [iq 68 (.loadn 6 (.s 1)),
 iq 69 (.faddr 1 (.s 11)),
 iq 70 (.loadn 4 (.s 69)),
 iq 71 (.call 14 [(.s 68), (.s 70)]),
 iq 72 (.not (.s 71))])
 (.cond (.s 72)
 (.seq
 (.reg [iq 2 (.mv (.c (.int .i64 (14))))])
 .ret)
 .skip))))
 (.reg [iq 73 (.bin .add (.s 64) (.c (.int .i64 (1)))),
 iq 64 (.mv (.s 73))])))))))
 (.seqj []
 (.seq
 (.reg [iq 74 (.loadn 6 (.s 1)),
 iq 75 (.call 22 [(.s 74)]),
 iq 76 (.mv (.s 4)),
 iq 77 (.mkfn 23 [(.s 76)] []),
 iq 78 (.call 21 [(.s 75), (.s 77)])])
 (.cond (.s 78)
 (.seq
 (.reg [iq 2 (.mv (.c (.int .i64 (17))))])
 .ret)
 .skip))
 (.seq
 (.reg [iq 2 (.mv (.c (.int .i64 (0))))])
 .ret)))))))))) }
theorem cf10_ok : compFn Try.prog Try.f10 [[1], [1], [1, 4], [1, 4, 33, 34, 35], [1, 4, 33, 34, 35], [1, 4, 33, 34, 35], [1, 4], [1, 4], [1, 4], [1, 4, 62, 63, 64], [1, 4, 62, 63, 64], [1, 4, 62, 63, 64], []] = some cf_shape_Check := by kernel_rfl
/- sprue/shape.types -/
def cf_shape_types : Eva.Fn := { ntmps := 39, res := [(.s 2)], body :=
 (.seq
 (.reg [iq 2 (.mv (.c (.int .i64 (0))))])
 (.seqj []
 (.seq
 (.reg [iq 5 (.mv (.s 0)),
 iq 6 (.lenL (.s 5)),
 iq 7 (.mv (.c (.int .i64 (0))))])
 (.block 0
 (.loop [0, 5, 6, 7]
 (.seq
 (.reg [iq 8 (.bin .lss (.s 7) (.s 6))])
 (.seqj [0, 5, 6, 7]
 (.cond (.s 8)
 .skip
 (.exit 0))
 (.seqj [0, 5, 6, 7]
 (.block 1
 (.seq
 (.reg [iq 9 (.mv (.s 7)),
 iq 10 (.iaddrS 5 (.s 5) (.s 7)),
 iq 11 (.loadn 5 (.s 10)),
 iq 4 (.alloc [(ofL []), (.int .i64 (0)), (ofL []), .snil, .snil]),
 iq 3 (.mv (.s 9)),
 iz (.store 5 (.s 4) (.s 11))])
 (.block 2
 (.seq
 (.reg [iq 13 (.faddr 0 (.s 4)),
 iq 14 (.load1 (.s 13)),
 iq 15 (.call 37 [(.s 14)]),
 iq 16 (.not (.s 15)),
 iq 17 (.mv (.s 16)),
 ig 18 17 false (.faddr 0 (.s 4)),
 ig 19 17 false (.load1 (.s 18)),
 ig 20 17 false (.bin .add (.c (ofL [32])) (.s 19)),
 ig 21 17 false (.bin .add (.s 20) (.c (ofL [32]))),
 ig 22 17 false (.call 38 [(.c (ofL [32, 66, 111, 111, 108, 32, 73, 110, 116, 32, 84, 101, 120, 116, 32, 76, 105, 115, 116, 32, 77, 97, 112, 32, 79, 112, 116, 32, 85, 110, 105, 111, 110, 32])), (.s 21)]),
 iq 23 (.pick (.s 17) (.c (.bool true)) (.s 22)),
 iq 12 (.mv (.s 23))])
 (.cond (.s 12)
 (.seq
 (.reg [iq 2 (.mv (.c (.int .i64 (15))))])
 .ret)
 (.seq
 (.drw [iq 25 (.mv (.s 3)),
 iq 26 (.bin .gtr (.s 25) (.c (.int .i64 (0)))),
 iq 27 (.mv (.s 26)),
 ig 28 27 true (.mv (.s 0)),
 ig 29 27 true (.mv (.s 3)),
 ig 30 27 true (.bin .sub (.s 29) (.c (.int .i64 (1)))),
 ig 31 27 true (.iaddrS 5 (.s 28) (.s 30)),
 ig 32 27 true (.faddr 0 (.s 31)),
 ig 33 27 true (.load1 (.s 32)),
 ig 34 27 true (.faddr 0 (.s 4)),
 ig 35 27 true (.load1 (.s 34)),
 ig 36 27 true (.bin .geq (.s 33) (.s 35)),
 iq 37 (.pick (.s 27) (.s 36) (.c (.bool false))),
 iq 24 (.mv (.s 37))] [])
 (.cond (.s 24)
 (.seq
 (.reg [iq 2 (.mv (.c (.int .i64 (6))))])
 .ret)
 .skip)))))))
 (.reg [iq 38 (.bin .add (.s 7) (.c (.int .i64 (1)))),
 iq 7 (.mv (.s 38))])))))))
 (.seq
 (.reg [iq 2 (.mv (.c (.int .i64 (0))))])
 .ret))) }
theorem cf17_ok : compFn Try.prog Try.f17 [[], [0, 5, 6, 7], [0, 5, 6, 7], [0, 5, 6, 7]] = some cf_shape_types := by kernel_rfl
/- sprue/scan.Ident -/
def cf_scan_Ident : Eva.Fn := { ntmps := 23, res := [(.s 2)], body :=
 (.seq
 (.reg [iq 2 (.mv (.c (.bool false)))])
 (.seq
 (.reg [iq 3 (.mv (.s 0)),
 iq 4 (.eq (.one .s) true (.s 3) (.c (ofL []))),
 iq 5 (.mv (.s 4)),
 ig 6 5 true (.mv (.s 0)),
 ig 7 5 true (.lenS (.s 6)),
 ig 8 5 true (.bin .leq (.s 7) (.c (.int .i64 (16)))),
 iq 9 (.pick (.s 5) (.s 8) (.c (.bool false))),
 iq 10 (.mv (.s 9)),
 ig 11 10 true (.mv (.s 0)),
 ig 12 10 true (.idxS (.s 11) (.c (.int .i64 (0)))),
 ig 13 10 true (.call 52 [(.s 12)]),
 ig 14 10 true (.not (.s 13)),
 iq 15 (.pick (.s 10) (.s 14) (.c (.bool false))),
 iq 16 (.mv (.s 15)),
 ig 17 16 true (.mv (.s 0)),
 ig 18 16 true (.call 53 [(.s 17)]),
 ig 19 16 true (.mv (.s 0)),
 ig 20 16 true (.lenS (.s 19)),
 ig 21 16 true (.eq (.one .i) false (.s 18) (.s 20)),
 iq 22 (.pick (.s 16) (.s 21) (.c (.bool false))),
 iq 2 (.mv (.s 22))])
 .ret)) }
theorem cf37_ok : compFn Try.prog Try.f37 [] = some cf_scan_Ident := by kernel_rfl
/- sprue/scan.digit -/
def cf_scan_digit : Eva.Fn := { ntmps := 9, res := [(.s 2)], body :=
 (.seq
 (.reg [iq 2 (.mv (.c (.bool false)))])
 (.seq
 (.reg [iq 3 (.mv (.s 0)),
 iq 4 (.bin .geq (.s 3) (.c (.int .u8 (48)))),
 iq 5 (.mv (.s 4)),
 ig 6 5 true (.mv (.s 0)),
 ig 7 5 true (.bin .leq (.s 6) (.c (.int .u8 (57)))),
 iq 8 (.pick (.s 5) (.s 7) (.c (.bool false))),
 iq 2 (.mv (.s 8))])
 .ret)) }
theorem cf52_ok : compFn Try.prog Try.f52 [] = some cf_scan_digit := by kernel_rfl
/- sprue/scan.row -/
def cf_scan_row : Eva.Fn := { ntmps := 5, res := [(.s 2)], body :=
 (.seq
 (.reg [iq 2 (.mv (.c (.int .i64 (0))))])
 (.seq
 (.reg [iq 3 (.mv (.s 0)),
 iq 4 (.call 56 [(.s 3), (.c (.fn 57 [] []))]),
 iq 2 (.mv (.s 4))])
 .ret)) }
theorem cf53_ok : compFn Try.prog Try.f53 [] = some cf_scan_row := by kernel_rfl
/- sprue/scan.front -/
def cf_scan_front : Eva.Fn := { ntmps := 20, res := [(.s 4)], body :=
 (.seq
 (.reg [iq 4 (.mv (.c (.int .i64 (0))))])
 (.seqj [0]
 (.seq
 (.reg [iq 6 (.mv (.s 0)),
 iq 7 (.rngS (.s 6))])
 (.block 0
 (.loop [0, 1, 7]
 (.seq
 (.reg [iq 8 (.nextS (.s 7)),
 iq 9 (.ext 0 (.s 8))])
 (.seqj [0, 1, 7, 8]
 (.cond (.s 9)
 .skip
 (.exit 0))
 (.block 1
 (.seq
 (.reg [iq 10 (.ext 1 (.s 8)),
 iq 5 (.mv (.s 10))])
 (.seq
 (.reg [iq 11 (.mv (.s 1)),
 iq 12 (.mv (.s 0)),
 iq 13 (.mv (.s 5)),
 iq 14 (.idxS (.s 12) (.s 13)),
 iq 15 (.callv (.s 11) [(.s 14)]),
 iq 16 (.not (.s 15))])
 (.cond (.s 16)
 (.seq
 (.reg [iq 17 (.mv (.s 5)),
 iq 4 (.mv (.s 17))])
 .ret)
 .skip)))))))))
 (.seq
 (.reg [iq 18 (.mv (.s 0)),
 iq 19 (.lenS (.s 18)),
 iq 4 (.mv (.s 19))])
 .ret))) }
theorem cf56_ok : compFn Try.prog Try.f56 [[0], [0, 1, 7], [0, 1, 7, 8]] = some cf_scan_front := by kernel_rfl
/- sprue/scan.row$1 -/
def cf_scan_row_1 : Eva.Fn := { ntmps := 9, res := [(.s 2)], body :=
 (.seq
 (.reg [iq 2 (.mv (.c (.bool false)))])
 (.seq
 (.reg [iq 3 (.mv (.s 0)),
 iq 4 (.call 58 [(.s 3)]),
 iq 5 (.mv (.s 4)),
 ig 6 5 false (.mv (.s 0)),
 ig 7 5 false (.call 52 [(.s 6)]),
 iq 8 (.pick (.s 5) (.c (.bool true)) (.s 7)),
 iq 2 (.mv (.s 8))])
 .ret)) }
theorem cf57_ok : compFn Try.prog Try.f57 [] = some cf_scan_row_1 := by kernel_rfl
/- sprue/scan.letter -/
def cf_scan_letter : Eva.Fn := { ntmps := 15, res := [(.s 2)], body :=
 (.seq
 (.reg [iq 2 (.mv (.c (.bool false)))])
 (.seq
 (.reg [iq 3 (.mv (.s 0)),
 iq 4 (.eq (.one .i) false (.s 3) (.c (.int .u8 (95)))),
 iq 5 (.mv (.s 4)),
 ig 6 5 false (.mv (.s 0)),
 ig 7 5 false (.bin .or (.s 6) (.c (.int .u8 (32)))),
 ig 8 5 false (.bin .geq (.s 7) (.c (.int .u8 (97)))),
 ig 9 5 false (.mv (.s 8)),
 ig 10 9 true (.mv (.s 0)),
 ig 11 9 true (.bin .or (.s 10) (.c (.int .u8 (32)))),
 ig 12 9 true (.bin .leq (.s 11) (.c (.int .u8 (122)))),
 ig 13 5 false (.pick (.s 9) (.s 12) (.c (.bool false))),
 iq 14 (.pick (.s 5) (.c (.bool true)) (.s 13)),
 iq 2 (.mv (.s 14))])
 .ret)) }
theorem cf58_ok : compFn Try.prog Try.f58 [] = some cf_scan_letter := by kernel_rfl
/- sprue/shape.named -/
def cf_shape_named : Eva.Fn := { ntmps := 21, res := [(.s 2)], body :=
 (.seq
 (.reg [iq 1 (.box (.s 0)),
 iq 2 (.mv (.c .mnil))])
 (.seq
 (.reg [⟨(some 6), .mkmap, none, none⟩,
 iq 3 (.mv (.s 6))])
 (.seqj [3]
 (.seq
 (.reg [iq 7 (.faddr 4 (.s 1)),
 iq 8 (.load1 (.s 7)),
 iq 9 (.lenL (.s 8)),
 iq 10 (.mv (.c (.int .i64 (0))))])
 (.block 0
 (.loop [3, 8, 9, 10]
 (.seq
 (.reg [iq 11 (.bin .lss (.s 10) (.s 9))])
 (.seqj [3, 8, 9, 10]
 (.cond (.s 11)
 .skip
 (.exit 0))
 (.seqj [3, 8, 9, 10]
 (.block 1
 (.seq
 (.reg [iq 12 (.iaddrS 5 (.s 8) (.s 10)),
 iq 13 (.loadn 5 (.s 12)),
 iq 5 (.alloc [(ofL []), (.int .i64 (0)), (ofL []), .snil, .snil]),
 iz (.store 5 (.s 5) (.s 13))])
 (.reg [iq 14 (.mv (.s 3)),
 iq 15 (.faddr 0 (.s 5)),
 iq 16 (.load1 (.s 15)),
 iq 17 (.faddr 1 (.s 5)),
 iq 18 (.loadn 4 (.s 17)),
 iz (.mupd (.one .s) (.s 14) (.s 16) (.s 18))])))
 (.reg [iq 19 (.bin .add (.s 10) (.c (.int .i64 (1)))),
 iq 10 (.mv (.s 19))])))))))
 (.seq
 (.reg [iq 20 (.mv (.s 3)),
 iq 2 (.mv (.s 20))])
 .ret)))) }
theorem cf18_ok : compFn Try.prog Try.f18 [[3], [3, 8, 9, 10], [3, 8, 9, 10], [3, 8, 9, 10]] = some cf_shape_named := by kernel_rfl
/- (*sprue/shape.looker).may -/
def cf_shape_looker_may : Eva.Fn := { ntmps := 113, res := [(.s 6)], body :=
 (.seq
 (.reg [iq 4 (.box (.s 1)),
 iq 6 (.mv (.c (.int .i64 (0))))])
 (.seq
 (.reg [iq 14 (.mv (.s 0)),
 iq 15 (.nilck (.s 14)),
 iq 16 (.faddr 1 (.s 15)),
 iq 17 (.load1 (.s 16)),
 iq 18 (.bin .add (.s 17) (.c (.int .i64 (1)))),
 iq 19 (.nilck (.s 14)),
 iq 20 (.faddr 1 (.s 19)),
 iz (.store 1 (.s 20) (.s 18))])
 (.seq
 (.drw [iq 22 (.mv (.s 0)),
 iq 23 (.nilck (.s 22)),
 iq 24 (.faddr 0 (.s 23)),
 iq 25 (.load1 (.s 24)),
 iq 26 (.faddr 1 (.s 4)),
 iq 27 (.load1 (.s 26)),
 iq 28 (.lookup (.one .s) (.agg [(.int .i64 (0)), (ofL []), .snil, .snil]) true (.s 25) (.s 27)),
 iq 21 (.mv (.s 28)),
 iq 29 (.ext 0 (.s 21)),
 iq 30 (.ext 1 (.s 21)),
 iq 7 (.alloc [(.int .i64 (0)), (ofL []), .snil, .snil]),
 iz (.store 4 (.s 7) (.s 29)),
 iq 8 (.mv (.s 30))] [])
 (.seq
 (.reg [iq 31 (.faddr 0 (.s 4)),
 iq 32 (.load1 (.s 31)),
 iq 33 (.eq (.one .i) false (.s 32) (.c (.int .i64 (7)))),
 iq 34 (.mv (.s 33)),
 ig 35 34 false (.faddr 0 (.s 4)),
 ig 36 34 false (.load1 (.s 35)),
 ig 37 34 false (.eq (.one .i) false (.s 36) (.c (.int .i64 (8)))),
 iq 38 (.pick (.s 34) (.c (.bool true)) (.s 37)),
 iq 9 (.mv (.s 38))])
 (.seqj [0, 2, 4]
 (.block 0
 (.seq
 (.reg [iq 40 (.mv (.s 0)),
 iq 41 (.nilck (.s 40)),
 iq 42 (.faddr 1 (.s 41)),
 iq 43 (.load1 (.s 42)),
 iq 44 (.bin .gtr (.s 43) (.c (.int .i64 (400)))),
 iq 39 (.mv (.s 44))])
 (.cond (.s 39)
 (.seq
 (.reg [iq 6 (.mv (.c (.int .i64 (3))))])
 .ret)
 (.seq
 (.reg [iq 46 (.mv (.s 2)),
 iq 47 (.bin .gtr (.s 46) (.c (.int .i64 (12)))),
 iq 45 (.mv (.s 47))])
 (.cond (.s 45)
 (.seq
 (.reg [iq 6 (.mv (.c (.int .i64 (13))))])
 .ret)
 (.seq
 (.reg [iq 49 (.faddr 0 (.s 4)),
 iq 50 (.load1 (.s 49)),
 iq 51 (.bin .lss (.s 50) (.c (.int .i64 (1)))),
 iq 52 (.mv (.s 51)),
 ig 53 52 false (.faddr 0 (.s 4)),
 ig 54 52 false (.load1 (.s 53)),
 ig 55 52 false (.bin .gtr (.s 54) (.c (.int .i64 (9)))),
 iq 56 (.pick (.s 52) (.c (.bool true)) (.s 55)),
 iq 48 (.mv (.s 56))])
 (.cond (.s 48)
 (.seq
 (.reg [iq 6 (.mv (.c (.int .i64 (1))))])
 .ret)
 (.seq
 (.drw [iq 58 (.faddr 3 (.s 4)),
 iq 59 (.load1 (.s 58)),
 iq 60 (.lenL (.s 59)),
 iq 61 (.loadn 4 (.s 4)),
 ⟨(some 62), (.call 39 [(.s 61)]), none, (some [58])⟩,
 iq 63 (.eq (.one .i) true (.s 60) (.s 62)),
 iq 64 (.mv (.s 63)),
 ig 65 64 false (.faddr 1 (.s 4)),
 ig 66 64 false (.load1 (.s 65)),
 ig 67 64 false (.eq (.one .s) true (.s 66) (.c (ofL []))),
 ig 68 64 false (.mv (.s 67)),
 ig 69 68 true (.faddr 0 (.s 4)),
 ig 70 68 true (.load1 (.s 69)),
 ig 71 68 true (.eq (.one .i) true (.s 70) (.c (.int .i64 (9)))),
 ig 72 64 false (.pick (.s 68) (.s 71) (.c (.bool false))),
 iq 73 (.pick (.s 64) (.c (.bool true)) (.s 72)),
 iq 74 (.mv (.s 73)),
 ig 75 74 false (.faddr 2 (.s 4)),
 ig 76 74 false (.load1 (.s 75)),
 ig 77 74 false (.lenL (.s 76)),
 ig 78 74 false (.bin .gtr (.s 77) (.c (.int .i64 (0)))),
 ig 79 74 false (.mv (.s 78)),
 ig 80 79 true (.mv (.s 9)),
 ig 81 79 true (.not (.s 80)),
 ig 82 74 false (.pick (.s 79) (.s 81) (.c (.bool false))),
 iq 83 (.pick (.s 74) (.c (.bool true)) (.s 82)),
 iq 57 (.mv (.s 83))] [])
 (.cond (.s 57)
 (.seq
 (.reg [iq 6 (.mv (.c (.int .i64 (12))))])
 .ret)
 (.seq
 (.reg [iq 85 (.faddr 0 (.s 4)),
 iq 86 (.load1 (.s 85)),
 iq 87 (.eq (.one .i) false (.s 86) (.c (.int .i64 (9)))),
 iq 88 (.mv (.s 87)),
 ig 89 88 true (.mv (.s 8)),
 ig 90 88 true (.not (.s 89)),
 iq 91 (.pick (.s 88) (.s 90) (.c (.bool false))),
 iq 84 (.mv (.s 91))])
 (.cond (.s 84)
 (.seq
 (.reg [iq 6 (.mv (.c (.int .i64 (15))))])
 .ret)
 .skip)))))))))))
 (.seqj [0, 2, 4]
 (.seq
 (.reg [iq 92 (.loadn 4 (.s 4)),
 iq 93 (.call 40 [(.s 92)]),
 iq 10 (.mv (.s 93))])
 (.seq
 (.reg [iq 94 (.mv (.s 10)),
 iq 95 (.eq (.one .i) true (.s 94) (.c (.int .i64 (0))))])
 (.cond (.s 95)
 (.seq
 (.reg [iq 96 (.mv (.s 10)),
 iq 6 (.mv (.s 96))])
 .ret)
 .skip)))
 (.seqj []
 (.seq
 (.reg [iq 97 (.faddr 3 (.s 4)),
 iq 98 (.load1 (.s 97)),
 iq 99 (.lenL (.s 98)),
 iq 100 (.mv (.c (.int .i64 (0))))])
 (.block 1
 (.loop [0, 2, 98, 99, 100]
 (.seq
 (.reg [iq 101 (.bin .lss (.s 100) (.s 99))])
 (.seqj [0, 2, 98, 99, 100]
 (.cond (.s 101)
 .skip
 (.exit 1))
 (.seqj [0, 2, 98, 99, 100]
 (.block 2
 (.seq
 (.reg [iq 102 (.iaddrS 4 (.s 98) (.s 100)),
 iq 103 (.loadn 4 (.s 102)),
 iq 12 (.alloc [(.int .i64 (0)), (ofL []), .snil, .snil]),
 iz (.store 4 (.s 12) (.s 103))])
 (.seq
 (.reg [iq 104 (.mv (.s 0)),
 iq 105 (.loadn 4 (.s 12)),
 iq 106 (.mv (.s 2)),
 iq 107 (.bin .add (.s 106) (.c (.int .i64 (1)))),
 iq 108 (.call 19 [(.s 104), (.s 105), (.s 107)]),
 iq 13 (.mv (.s 108))])
 (.seq
 (.reg [iq 109 (.mv (.s 13)),
 iq 110 (.eq (.one .i) true (.s 109) (.c (.int .i64 (0))))])
 (.cond (.s 110)
 (.seq
 (.reg [iq 111 (.mv (.s 13)),
 iq 6 (.mv (.s 111))])
 .ret)
 .skip)))))
 (.reg [iq 112 (.bin .add (.s 100) (.c (.int .i64 (1)))),
 iq 100 (.mv (.s 112))])))))))
 (.seq
 (.reg [iq 6 (.mv (.c (.int .i64 (0))))])
 .ret)))))))) }
theorem cf19_ok : compFn Try.prog Try.f19 [[0, 2, 4], [0, 2, 4], [], [0, 2, 98, 99, 100], [0, 2, 98, 99, 100], [0, 2, 98, 99, 100]] = some cf_shape_looker_may := by kernel_rfl
/- sprue/shape.kids -/
def cf_shape_kids : Eva.Fn := { ntmps := 15, res := [(.s 2)], body :=
 (.seq
 (.reg [iq 1 (.box (.s 0)),
 iq 2 (.mv (.c (.int .i64 (0))))])
 (.seqj []
 (.seq
 (.reg [iq 3 (.faddr 0 (.s 1)),
 iq 4 (.load1 (.s 3))])
 (.block 0
 (.seqj [1, 4, 5]
 (.seq
 (.reg [iq 6 (.eq (.one .i) false (.s 4) (.c (.int .i64 (4)))),
 iq 5 (.mv (.s 6))])
 (.cond (.s 5)
 .skip
 (.seq
 (.reg [iq 7 (.eq (.one .i) false (.s 4) (.c (.int .i64 (5)))),
 iq 5 (.mv (.s 7))])
 (.cond (.s 5)
 .skip
 (.reg [iq 8 (.eq (.one .i) false (.s 4) (.c (.int .i64 (6)))),
 iq 5 (.mv (.s 8))])))))
 (.cond (.s 5)
 (.seq
 (.reg [iq 2 (.mv (.c (.int .i64 (1))))])
 .ret)
 (.seqj [1, 9]
 (.seq
 (.reg [iq 10 (.eq (.one .i) false (.s 4) (.c (.int .i64 (7)))),
 iq 9 (.mv (.s 10))])
 (.cond (.s 9)
 .skip
 (.reg [iq 11 (.eq (.one .i) false (.s 4) (.c (.int .i64 (8)))),
 iq 9 (.mv (.s 11))])))
 (.cond (.s 9)
 (.seq
 (.reg [iq 12 (.faddr 2 (.s 1)),
 iq 13 (.load1 (.s 12)),
 iq 14 (.lenL (.s 13)),
 iq 2 (.mv (.s 14))])
 .ret)
 .skip))))))
 (.seq
 (.reg [iq 2 (.mv (.c (.int .i64 (0))))])
 .ret))) }
theorem cf39_ok : compFn Try.prog Try.f39 [[], [1, 4, 5], [1, 9]] = some cf_shape_kids := by kernel_rfl
/- sprue/shape.fields -/
def cf_shape_fields : Eva.Fn := { ntmps := 44, res := [(.s 2)], body :=
 (.seq
 (.reg [iq 1 (.box (.s 0)),
 iq 2 (.mv (.c (.int .i64 (0))))])
 (.seqj [1]
 (.seq
 (.reg [iq 5 (.faddr 2 (.s 1)),
 iq 6 (.load1 (.s 5)),
 iq 7 (.lenL (.s 6)),
 iq 8 (.bin .gtr (.s 7) (.c (.int .i64 (8))))])
 (.cond (.s 8)
 (.seq
 (.reg [iq 2 (.mv (.c (.int .i64 (3))))])
 .ret)
 .skip))
 (.seqj [1]
 (.seq
 (.reg [iq 9 (.faddr 2 (.s 1)),
 iq 10 (.load1 (.s 9)),
 iq 11 (.lenL (.s 10)),
 iq 12 (.mv (.c (.int .i64 (0))))])
 (.block 0
 (.loop [1, 10, 11, 12]
 (.seq
 (.reg [iq 13 (.bin .lss (.s 12) (.s 11))])
 (.seqj [1, 10, 11, 12]
 (.cond (.s 13)
 .skip
 (.exit 0))
 (.seqj [1, 10, 11, 12]
 (.block 1
 (.seq
 (.reg [iq 14 (.mv (.s 12)),
 iq 15 (.iaddrS 1 (.s 10) (.s 12)),
 iq 16 (.load1 (.s 15)),
 iq 3 (.mv (.s 14)),
 iq 4 (.mv (.s 16))])
 (.block 2
 (.seq
 (.reg [iq 18 (.mv (.s 4)),
 iq 19 (.call 37 [(.s 18)]),
 iq 20 (.not (.s 19)),
 iq 17 (.mv (.s 20))])
 (.cond (.s 17)
 (.seq
 (.reg [iq 2 (.mv (.c (.int .i64 (15))))])
 .ret)
 (.seq
 (.reg [iq 22 (.mv (.s 3)),
 iq 23 (.bin .gtr (.s 22) (.c (.int .i64 (0)))),
 iq 24 (.mv (.s 23)),
 ig 25 24 true (.faddr 2 (.s 1)),
 ig 26 24 true (.load1 (.s 25)),
 ig 27 24 true (.mv (.s 3)),
 ig 28 24 true (.bin .sub (.s 27) (.c (.int .i64 (1)))),
 ig 29 24 true (.iaddrS 1 (.s 26) (.s 28)),
 ig 30 24 true (.load1 (.s 29)),
 ig 31 24 true (.mv (.s 4)),
 ig 32 24 true (.bin .geq (.s 30) (.s 31)),
 iq 33 (.pick (.s 24) (.s 32) (.c (.bool false))),
 iq 21 (.mv (.s 33))])
 (.cond (.s 21)
 (.seq
 (.reg [iq 2 (.mv (.c (.int .i64 (6))))])
 .ret)
 .skip)))))))
 (.reg [iq 34 (.bin .add (.s 12) (.c (.int .i64 (1)))),
 iq 12 (.mv (.s 34))])))))))
 (.seqj []
 (.seq
 (.reg [iq 35 (.faddr 0 (.s 1)),
 iq 36 (.load1 (.s 35)),
 iq 37 (.eq (.one .i) false (.s 36) (.c (.int .i64 (8)))),
 iq 38 (.mv (.s 37)),
 ig 39 38 true (.faddr 2 (.s 1)),
 ig 40 38 true (.load1 (.s 39)),
 ig 41 38 true (.lenL (.s 40)),
 ig 42 38 true (.eq (.one .i) false (.s 41) (.c (.int .i64 (0)))),
 iq 43 (.pick (.s 38) (.s 42) (.c (.bool false)))])
 (.cond (.s 43)
 (.seq
 (.reg [iq 2 (.mv (.c (.int .i64 (12))))])
 .ret)
 .skip))
 (.seq
 (.reg [iq 2 (.mv (.c (.int .i64 (0))))])
 .ret))))) }
theorem cf40_ok : compFn Try.prog Try.f40 [[1], [1], [1, 10, 11, 12], [1, 10, 11, 12], [1, 10, 11, 12], []] = some cf_shape_fields := by kernel_rfl
/- (*sprue/shape.looker).sigs -/
def cf_shape_looker_sigs : Eva.Fn := { ntmps := 57, res := [(.s 4)], body :=
 (.seq
 (.reg [iq 4 (.mv (.c (.int .i64 (0))))])
 (.seqj []
 (.seq
 (.reg [iq 8 (.mv (.s 1)),
 iq 9 (.lenL (.s 8)),
 iq 10 (.mv (.c (.int .i64 (0))))])
 (.block 0
 (.loop [0, 1, 8, 9, 10]
 (.seq
 (.reg [iq 11 (.bin .lss (.s 10) (.s 9))])
 (.seqj [0, 1, 8, 9, 10]
 (.cond (.s 11)
 .skip
 (.exit 0))
 (.seqj [0, 1, 8, 9, 10]
 (.block 1
 (.seq
 (.reg [iq 12 (.mv (.s 10)),
 iq 13 (.iaddrS 6 (.s 8) (.s 10)),
 iq 14 (.loadn 6 (.s 13)),
 iq 6 (.alloc [(ofL []), .snil, (.int .i64 (0)), (ofL []), .snil, .snil]),
 iq 5 (.mv (.s 12)),
 iz (.store 6 (.s 6) (.s 14))])
 (.seqj [0, 1, 6, 8, 9, 10]
 (.block 2
 (.seq
 (.reg [iq 16 (.faddr 0 (.s 6)),
 iq 17 (.load1 (.s 16)),
 iq 18 (.call 37 [(.s 17)]),
 iq 19 (.not (.s 18)),
 iq 20 (.mv (.s 19)),
 ig 21 20 false (.faddr 0 (.s 6)),
 ig 22 20 false (.load1 (.s 21)),
 ig 23 20 false (.call 41 [(.s 22)]),
 iq 24 (.pick (.s 20) (.c (.bool true)) (.s 23)),
 iq 15 (.mv (.s 24))])
 (.cond (.s 15)
 (.seq
 (.reg [iq 4 (.mv (.c (.int .i64 (15))))])
 .ret)
 (.seq
 (.drw [iq 26 (.mv (.s 5)),
 iq 27 (.bin .gtr (.s 26) (.c (.int .i64 (0)))),
 iq 28 (.mv (.s 27)),
 ig 29 28 true (.mv (.s 1)),
 ig 30 28 true (.mv (.s 5)),
 ig 31 28 true (.bin .sub (.s 30) (.c (.int .i64 (1)))),
 ig 32 28 true (.iaddrS 6 (.s 29) (.s 31)),
 ig 33 28 true (.faddr 0 (.s 32)),
 ig 34 28 true (.load1 (.s 33)),
 ig 35 28 true (.faddr 0 (.s 6)),
 ig 36 28 true (.load1 (.s 35)),
 ig 37 28 true (.bin .geq (.s 34) (.s 36)),
 iq 38 (.pick (.s 28) (.s 37) (.c (.bool false))),
 iq 25 (.mv (.s 38))] [])
 (.cond (.s 25)
 (.seq
 (.reg [iq 4 (.mv (.c (.int .i64 (6))))])
 .ret)
 (.seq
 (.reg [iq 40 (.faddr 1 (.s 6)),
 iq 41 (.load1 (.s 40)),
 iq 42 (.lenL (.s 41)),
 iq 43 (.bin .gtr (.s 42) (.c (.int .i64 (4)))),
 iq 39 (.mv (.s 43))])
 (.cond (.s 39)
 (.seq
 (.reg [iq 4 (.mv (.c (.int .i64 (18))))])
 .ret)
 .skip)))))))
 (.seq
 (.drw [iq 44 (.mv (.s 0)),
 iq 45 (.faddr 1 (.s 6)),
 iq 46 (.load1 (.s 45)),
 iq 47 (.call 43 [(.s 46)]),
 iq 48 (.faddr 2 (.s 6)),
 iq 49 (.loadn 4 (.s 48)),
 iq 50 (.bsl 4 1 [(.int .i64 (0)), (ofL []), .snil, .snil] [(0, 4, (.s 49))]),
 iq 51 (.app 4 (.s 47) (.s 50)),
 ⟨(some 52), (.call 42 [(.s 44), (.s 51)]), none, (some [])⟩,
 iq 7 (.mv (.s 52))] [])
 (.seq
 (.reg [iq 53 (.mv (.s 7)),
 iq 54 (.eq (.one .i) true (.s 53) (.c (.int .i64 (0))))])
 (.cond (.s 54)
 (.seq
 (.reg [iq 55 (.mv (.s 7)),
 iq 4 (.mv (.s 55))])
 .ret)
 .skip))))))
 (.reg [iq 56 (.bin .add (.s 10) (.c (.int .i64 (1)))),
 iq 10 (.mv (.s 56))])))))))
 (.seq
 (.reg [iq 4 (.mv (.c (.int .i64 (0))))])
 .ret))) }
theorem cf20_ok : compFn Try.prog Try.f20 [[], [0, 1, 8, 9, 10], [0, 1, 8, 9, 10], [0, 1, 8, 9, 10], [0, 1, 6, 8, 9, 10]] = some cf_shape_looker_sigs := by kernel_rfl
/- sprue/shape.Builtin -/
def cf_shape_Builtin : Eva.Fn := { ntmps := 11, res := [(.s 2)], body :=
 (.seq
 (.reg [iq 2 (.mv (.c (.bool false)))])
 (.seq
 (.reg [iq 3 (.mv (.s 0)),
 iq 4 (.call 37 [(.s 3)]),
 iq 5 (.mv (.s 4)),
 ig 6 5 true (.mv (.s 0)),
 ig 7 5 true (.bin .add (.c (ofL [32])) (.s 6)),
 ig 8 5 true (.bin .add (.s 7) (.c (ofL [32]))),
 ig 9 5 true (.call 38 [(.c (ofL [32, 108, 101, 110, 32, 110, 111, 116, 32, 97, 110, 100, 32, 111, 114, 32, 101, 113, 32, 108, 116, 32, 97, 100, 100, 32, 115, 117, 98, 32, 109, 117, 108, 32, 115, 104, 108, 32, 115, 104, 114, 32, 105, 56, 32, 105, 49, 54, 32, 105, 51, 50, 32, 117, 56, 32, 117, 49, 54, 32, 117, 51, 50, 32, 99, 97, 116, 32, 116, 101, 120, 116, 32, 97, 116, 32, 103, 101, 116, 32, 104, 97, 115, 32, 111, 114, 101, 108, 115, 101, 32])), (.s 8)]),
 iq 10 (.pick (.s 5) (.s 9) (.c (.bool false))),
 iq 2 (.mv (.s 10))])
 .ret)) }
theorem cf41_ok : compFn Try.prog Try.f41 [] = some cf_shape_Builtin := by kernel_rfl
/- slices.Clone(()sprue/api.Type,sprue/api.Type) -/
def cf_slices_Clone_Type : Eva.Fn := { ntmps := 8, res := [(.s 2)], body :=
 (.seq
 (.reg [iq 2 (.mv (.c .snil))])
 (.seqj [0]
 (.seq
 (.reg [iq 3 (.mv (.s 0)),
 iq 4 (.eq (.one .l) false (.s 3) (.c .snil))])
 (.cond (.s 4)
 (.seq
 (.reg [iq 2 (.mv (.c .snil))])
 .ret)
 .skip))
 (.seq
 (.reg [iq 5 (.bsl 4 0 [] []),
 iq 6 (.mv (.s 0)),
 iq 7 (.app 4 (.s 5) (.s 6)),
 iq 2 (.mv (.s 7))])
 .ret))) }
theorem cf43_ok : compFn Try.prog Try.f43 [[0]] = some cf_slices_Clone_Type := by kernel_rfl
/- (*sprue/shape.looker).all -/
def cf_shape_looker_all : Eva.Fn := { ntmps := 21, res := [(.s 4)], body :=
 (.seq
 (.reg [iq 4 (.mv (.c (.int .i64 (0))))])
 (.seqj []
 (.seq
 (.reg [iq 8 (.mv (.s 1)),
 iq 9 (.lenL (.s 8)),
 iq 10 (.mv (.c (.int .i64 (0))))])
 (.block 0
 (.loop [0, 8, 9, 10]
 (.seq
 (.reg [iq 11 (.bin .lss (.s 10) (.s 9))])
 (.seqj [0, 8, 9, 10]
 (.cond (.s 11)
 .skip
 (.exit 0))
 (.seqj [0, 8, 9, 10]
 (.block 1
 (.seq
 (.reg [iq 12 (.iaddrS 4 (.s 8) (.s 10)),
 iq 13 (.loadn 4 (.s 12)),
 iq 6 (.alloc [(.int .i64 (0)), (ofL []), .snil, .snil]),
 iz (.store 4 (.s 6) (.s 13))])
 (.seq
 (.reg [iq 14 (.mv (.s 0)),
 iq 15 (.loadn 4 (.s 6)),
 iq 16 (.call 19 [(.s 14), (.s 15), (.c (.int .i64 (1)))]),
 iq 7 (.mv (.s 16))])
 (.seq
 (.reg [iq 17 (.mv (.s 7)),
 iq 18 (.eq (.one .i) true (.s 17) (.c (.int .i64 (0))))])
 (.cond (.s 18)
 (.seq
 (.reg [iq 19 (.mv (.s 7)),
 iq 4 (.mv (.s 19))])
 .ret)
 .skip)))))
 (.reg [iq 20 (.bin .add (.s 10) (.c (.int .i64 (1)))),
 iq 10 (.mv (.s 20))])))))))
 (.seq
 (.reg [iq 4 (.mv (.c (.int .i64 (0))))])
 .ret))) }
theorem cf42_ok : compFn Try.prog Try.f42 [[], [0, 8, 9, 10], [0, 8, 9, 10], [0, 8, 9, 10]] = some cf_shape_looker_all := by kernel_rfl
/- sprue/shape.Finite -/
def cf_shape_Finite : Eva.Fn := { ntmps := 66, res := [(.s 4)], body :=
 (.seq
 (.reg [iq 2 (.box (.s 0)),
 iq 3 (.box (.s 1)),
 iq 4 (.mv (.c (.bool false)))])
 (.seq
 (.reg [iq 11 (.loadn 6 (.s 2)),
 iq 12 (.call 18 [(.s 11)]),
 iq 13 (.build [.mnil, (.int .i64 (0))] [(0, 1, (.s 12))]),
 iq 14 (.box (.s 13)),
 iq 5 (.mv (.s 14))])
 (.seqj [2, 3, 5]
 (.seq
 (.reg [iq 15 (.faddr 4 (.s 2)),
 iq 16 (.load1 (.s 15)),
 iq 17 (.lenL (.s 16)),
 iq 18 (.mv (.c (.int .i64 (0))))])
 (.block 0
 (.loop [2, 3, 5, 16, 17, 18]
 (.seq
 (.reg [iq 19 (.bin .lss (.s 18) (.s 17))])
 (.seqj [2, 3, 5, 16, 17, 18]
 (.cond (.s 19)
 .skip
 (.exit 0))
 (.seqj [2, 3, 5, 16, 17, 18]
 (.block 1
 (.seq
 (.reg [iq 20 (.iaddrS 5 (.s 16) (.s 18)),
 iq 21 (.loadn 5 (.s 20)),
 iq 7 (.alloc [(ofL []), (.int .i64 (0)), (ofL []), .snil, .snil]),
 iz (.store 5 (.s 7) (.s 21))])
 (.seq
 (.reg [iq 22 (.mv (.s 5)),
 iq 23 (.faddr 1 (.s 7)),
 iq 24 (.loadn 4 (.s 23)),
 iq 25 (.call 19 [(.s 22), (.s 24), (.c (.int .i64 (1)))]),
 iq 26 (.eq (.one .i) true (.s 25) (.c (.int .i64 (0))))])
 (.cond (.s 26)
 (.seq
 (.reg [iq 4 (.mv (.c (.bool false)))])
 .ret)
 .skip))))
 (.reg [iq 27 (.bin .add (.s 18) (.c (.int .i64 (1)))),
 iq 18 (.mv (.s 27))])))))))
 (.seq
 (.reg [iq 28 (.mv (.s 5)),
 iq 29 (.nilck (.s 28)),
 iq 30 (.faddr 1 (.s 29)),
 iz (.store 1 (.s 30) (.c (.int .i64 (0))))])
 (.seqj [2, 3]
 (.seq
 (.reg [iq 31 (.mv (.s 5)),
 iq 32 (.loadn 4 (.s 3)),
 iq 33 (.call 19 [(.s 31), (.s 32), (.c (.int .i64 (1)))]),
 iq 34 (.eq (.one .i) true (.s 33) (.c (.int .i64 (0))))])
 (.cond (.s 34)
 (.seq
 (.reg [iq 4 (.mv (.c (.bool false)))])
 .ret)
 .skip))
 (.seq
 (.reg [⟨(some 35), .mkmap, none, none⟩,
 iq 8 (.mv (.s 35))])
 (.seqj [3, 8]
 (.seq
 (.reg [iq 36 (.faddr 4 (.s 2)),
 iq 37 (.load1 (.s 36)),
 iq 38 (.lenL (.s 37)),
 iq 39 (.mv (.c (.int .i64 (0))))])
 (.block 2
 (.loop [2, 3, 8, 38, 39]
 (.seq
 (.reg [iq 40 (.bin .lss (.s 39) (.s 38))])
 (.seqj [2, 3, 8, 38, 39]
 (.cond (.s 40)
 .skip
 (.exit 2))
 (.seqj [2, 3, 8, 38, 39]
 (.block 3
 (.seq
 (.reg [iq 41 (.faddr 4 (.s 2)),
 iq 42 (.load1 (.s 41)),
 iq 43 (.lenL (.s 42)),
 iq 44 (.mv (.c (.int .i64 (0))))])
 (.block 4
 (.loop [2, 3, 8, 38, 39, 42, 43, 44]
 (.seq
 (.reg [iq 45 (.bin .lss (.s 44) (.s 43))])
 (.seqj [2, 3, 8, 38, 39, 42, 43, 44]
 (.cond (.s 45)
 .skip
 (.exit 4))
 (.seqj [2, 3, 8, 38, 39, 42, 43, 44]
 (.block 5
 (.seq
 (.reg [iq 46 (.iaddrS 5 (.s 42) (.s 44)),
 iq 47 (.loadn 5 (.s 46)),
 iq 10 (.alloc [(ofL []), (.int .i64 (0)), (ofL []), .snil, .snil]),
 iz (.store 5 (.s 10) (.s 47))])
 (.drw [iq 48 (.mv (.s 8)),
 iq 49 (.faddr 0 (.s 10)),
 iq 50 (.load1 (.s 49)),
 iq 51 (.mv (.s 8)),
 iq 52 (.faddr 0 (.s 10)),
 iq 53 (.load1 (.s 52)),
 iq 54 (.lookup (.one .s) (.bool false) false (.s 51) (.s 53)),
 iq 55 (.mv (.s 54)),
 ig 56 55 false (.faddr 1 (.s 10)),
 ig 57 55 false (.loadn 4 (.s 56)),
 ig 58 55 false (.mv (.s 8)),
 ⟨(some 59), (.call 31 [(.s 57), (.s 58), (.c (.int .i64 (1)))]), (some (55, false)), (some [49])⟩,
 iq 60 (.pick (.s 55) (.c (.bool true)) (.s 59)),
 iz (.mupd (.one .s) (.s 48) (.s 50) (.s 60))] [])))
 (.reg [iq 61 (.bin .add (.s 44) (.c (.int .i64 (1)))),
 iq 44 (.mv (.s 61))]))))))))
 (.reg [iq 62 (.bin .add (.s 39) (.c (.int .i64 (1)))),
 iq 39 (.mv (.s 62))])))))))
 (.seq
 (.reg [iq 63 (.loadn 4 (.s 3)),
 iq 64 (.mv (.s 8)),
 iq 65 (.call 31 [(.s 63), (.s 64), (.c (.int .i64 (1)))]),
 iq 4 (.mv (.s 65))])
 .ret)))))))) }
theorem cf14_ok : compFn Try.prog Try.f14 [[2, 3, 5], [2, 3, 5, 16, 17, 18], [2, 3, 5, 16, 17, 18], [2, 3, 5, 16, 17, 18], [2, 3], [3, 8], [2, 3, 8, 38, 39], [2, 3, 8, 38, 39], [2, 3, 8, 38, 39], [2, 3, 8, 38, 39, 42, 43, 44], [2, 3, 8, 38, 39, 42, 43, 44], [2, 3, 8, 38, 39, 42, 43, 44]] = some cf_shape_Finite := by kernel_rfl
/- sprue/shape.ends -/
def cf_shape_ends : Eva.Fn := { ntmps := 32, res := [(.s 6)], body :=
 (.seq
 (.reg [iq 3 (.box (.s 0)),
 iq 4 (.box (.s 1)),
 iq 5 (.box (.s 2)),
 iq 6 (.mv (.c (.bool false)))])
 (.seqj [3, 4, 5]
 (.seq
 (.reg [iq 8 (.load1 (.s 5)),
 iq 9 (.bin .gtr (.s 8) (.c (.int .i64 (12))))])
 (.cond (.s 9)
 (.seq
 (.reg [iq 6 (.mv (.c (.bool false)))])
 .ret)
 .skip))
 (.seq
 (.reg [iq 10 (.mkfn 49 [] [(.s 4), (.s 5)]),
 iq 7 (.alloc [.fnil]),
 iz (.store 1 (.s 7) (.s 10))])
 (.seqj []
 (.seq
 (.reg [iq 11 (.faddr 0 (.s 3)),
 iq 12 (.load1 (.s 11))])
 (.block 0
 (.seq
 (.reg [iq 14 (.eq (.one .i) false (.s 12) (.c (.int .i64 (9)))),
 iq 13 (.mv (.s 14))])
 (.cond (.s 13)
 (.seq
 (.reg [iq 15 (.load1 (.s 4)),
 iq 16 (.faddr 1 (.s 3)),
 iq 17 (.load1 (.s 16)),
 iq 18 (.lookup (.one .s) (.bool false) false (.s 15) (.s 17)),
 iq 6 (.mv (.s 18))])
 .ret)
 (.seq
 (.reg [iq 20 (.eq (.one .i) false (.s 12) (.c (.int .i64 (8)))),
 iq 19 (.mv (.s 20))])
 (.cond (.s 19)
 (.seq
 (.reg [iq 21 (.faddr 3 (.s 3)),
 iq 22 (.load1 (.s 21)),
 iq 23 (.load1 (.s 7)),
 iq 24 (.call 21 [(.s 22), (.s 23)]),
 iq 6 (.mv (.s 24))])
 .ret)
 (.seq
 (.reg [iq 26 (.eq (.one .i) false (.s 12) (.c (.int .i64 (7)))),
 iq 25 (.mv (.s 26))])
 (.cond (.s 25)
 (.seq
 (.reg [iq 27 (.faddr 3 (.s 3)),
 iq 28 (.load1 (.s 27)),
 iq 29 (.mkfn 50 [] [(.s 7)]),
 iq 30 (.call 21 [(.s 28), (.s 29)]),
 iq 31 (.not (.s 30)),
 iq 6 (.mv (.s 31))])
 .ret)
 .skip))))))))
 (.seq
 (.reg [iq 6 (.mv (.c (.bool true)))])
 .ret))))) }
theorem cf31_ok : compFn Try.prog Try.f31 [[3, 4, 5], []] = some cf_shape_ends := by kernel_rfl
/- sprue/shape.ends$1 -/
def cf_shape_ends_1 : Eva.Fn := { ntmps := 10, res := [(.s 4)], body :=
 (.seq
 (.reg [iq 3 (.box (.s 0)),
 iq 4 (.mv (.c (.bool false)))])
 (.seq
 (.reg [iq 5 (.loadn 4 (.s 3)),
 iq 6 (.load1 (.s 1)),
 iq 7 (.load1 (.s 2)),
 iq 8 (.bin .add (.s 7) (.c (.int .i64 (1)))),
 iq 9 (.call 31 [(.s 5), (.s 6), (.s 8)]),
 iq 4 (.mv (.s 9))])
 .ret)) }
theorem cf49_ok : compFn Try.prog Try.f49 [] = some cf_shape_ends_1 := by kernel_rfl
/- slices.ContainsFunc(()sprue/api.Type,sprue/api.Type) -/
def cf_slices_ContainsFunc_Type : Eva.Fn := { ntmps := 9, res := [(.s 4)], body :=
 (.seq
 (.reg [iq 4 (.mv (.c (.bool false)))])
 (.seq
 (.reg [iq 5 (.mv (.s 0)),
 iq 6 (.mv (.s 1)),
 iq 7 (.call 44 [(.s 5), (.s 6)]),
 iq 8 (.bin .geq (.s 7) (.c (.int .i64 (0)))),
 iq 4 (.mv (.s 8))])
 .ret)) }
theorem cf21_ok : compFn Try.prog Try.f21 [] = some cf_slices_ContainsFunc_Type := by kernel_rfl
/- slices.IndexFunc(()sprue/api.Type,sprue/api.Type) -/
def cf_slices_IndexFunc_Type : Eva.Fn := { ntmps := 19, res := [(.s 4)], body :=
 (.seq
 (.reg [iq 4 (.mv (.c (.int .i64 (0))))])
 (.seqj []
 (.seq
 (.reg [iq 6 (.mv (.s 0)),
 iq 7 (.lenL (.s 6)),
 iq 8 (.mv (.c (.int .i64 (0))))])
 (.block 0
 (.loop [0, 1, 7, 8]
 (.seq
 (.reg [iq 9 (.bin .lss (.s 8) (.s 7))])
 (.seqj [0, 1, 7, 8]
 (.cond (.s 9)
 .skip
 (.exit 0))
 (.seqj [0, 1, 7, 8]
 (.block 1
 (.seq
 (.reg [iq 10 (.mv (.s 8)),
 iq 5 (.mv (.s 10))])
 (.seq
 (.reg [iq 11 (.mv (.s 1)),
 iq 12 (.mv (.s 0)),
 iq 13 (.mv (.s 5)),
 iq 14 (.iaddrS 4 (.s 12) (.s 13)),
 iq 15 (.loadn 4 (.s 14)),
 iq 16 (.callv (.s 11) [(.s 15)])])
 (.cond (.s 16)
 (.seq
 (.reg [iq 17 (.mv (.s 5)),
 iq 4 (.mv (.s 17))])
 .ret)
 .skip))))
 (.reg [iq 18 (.bin .add (.s 8) (.c (.int .i64 (1)))),
 iq 8 (.mv (.s 18))])))))))
 (.seq
 (.reg [iq 4 (.mv (.c (.int .i64 (-1))))])
 .ret))) }
theorem cf44_ok : compFn Try.prog Try.f44 [[], [0, 1, 7, 8], [0, 1, 7, 8], [0, 1, 7, 8]] = some cf_slices_IndexFunc_Type := by kernel_rfl
/- sprue/shape.ends$2 -/
def cf_shape_ends_2 : Eva.Fn := { ntmps := 8, res := [(.s 3)], body :=
 (.seq
 (.reg [iq 2 (.box (.s 0)),
 iq 3 (.mv (.c (.bool false)))])
 (.seq
 (.reg [iq 4 (.load1 (.s 1)),
 iq 5 (.loadn 4 (.s 2)),
 iq 6 (.callv (.s 4) [(.s 5)]),
 iq 7 (.not (.s 6)),
 iq 3 (.mv (.s 7))])
 .ret)) }
theorem cf50_ok : compFn Try.prog Try.f50 [] = some cf_shape_ends_2 := by kernel_rfl
/- sprue/shape.every -/
def cf_shape_every : Eva.Fn := { ntmps := 43, res := [(.s 2)], body :=
 (.seq
 (.reg [iq 1 (.box (.s 0)),
 iq 2 (.mv (.c .snil))])
 (.seq
 (.reg [iq 3 (.mv (.c .snil))])
 (.seqj [1, 3]
 (.seq
 (.reg [iq 8 (.faddr 4 (.s 1)),
 iq 9 (.load1 (.s 8)),
 iq 10 (.lenL (.s 9)),
 iq 11 (.mv (.c (.int .i64 (0))))])
 (.block 0
 (.loop [1, 3, 9, 10, 11]
 (.seq
 (.reg [iq 12 (.bin .lss (.s 11) (.s 10))])
 (.seqj [1, 3, 9, 10, 11]
 (.cond (.s 12)
 .skip
 (.exit 0))
 (.seqj [1, 3, 9, 10, 11]
 (.block 1
 (.seq
 (.reg [iq 13 (.iaddrS 5 (.s 9) (.s 11)),
 iq 14 (.loadn 5 (.s 13)),
 iq 5 (.alloc [(ofL []), (.int .i64 (0)), (ofL []), .snil, .snil]),
 iz (.store 5 (.s 5) (.s 14))])
 (.reg [iq 15 (.mv (.s 3)),
 iq 16 (.faddr 1 (.s 5)),
 iq 17 (.loadn 4 (.s 16)),
 iq 18 (.bsl 4 1 [(.int .i64 (0)), (ofL []), .snil, .snil] [(0, 4, (.s 17))]),
 iq 19 (.app 4 (.s 15) (.s 18)),
 iq 3 (.mv (.s 19))])))
 (.reg [iq 20 (.bin .add (.s 11) (.c (.int .i64 (1)))),
 iq 11 (.mv (.s 20))])))))))
 (.seq
 (.reg [iq 21 (.mv (.s 3)),
 iq 22 (.faddr 0 (.s 1)),
 iq 23 (.loadn 4 (.s 22)),
 iq 24 (.bsl 4 1 [(.int .i64 (0)), (ofL []), .snil, .snil] [(0, 4, (.s 23))]),
 iq 25 (.app 4 (.s 21) (.s 24)),
 iq 3 (.mv (.s 25))])
 (.seqj [3]
 (.seq
 (.reg [iq 26 (.faddr 5 (.s 1)),
 iq 27 (.load1 (.s 26)),
 iq 28 (.lenL (.s 27)),
 iq 29 (.mv (.c (.int .i64 (0))))])
 (.block 2
 (.loop [3, 27, 28, 29]
 (.seq
 (.reg [iq 30 (.bin .lss (.s 29) (.s 28))])
 (.seqj [3, 27, 28, 29]
 (.cond (.s 30)
 .skip
 (.exit 2))
 (.seqj [3, 27, 28, 29]
 (.block 3
 (.seq
 (.reg [iq 31 (.iaddrS 6 (.s 27) (.s 29)),
 iq 32 (.loadn 6 (.s 31)),
 iq 7 (.alloc [(ofL []), .snil, (.int .i64 (0)), (ofL []), .snil, .snil]),
 iz (.store 6 (.s 7) (.s 32))])
 (.drw [iq 33 (.mv (.s 3)),
 iq 34 (.faddr 1 (.s 7)),
 iq 35 (.load1 (.s 34)),
 iq 36 (.app 4 (.s 33) (.s 35)),
 iq 37 (.faddr 2 (.s 7)),
 iq 38 (.loadn 4 (.s 37)),
 iq 39 (.bsl 4 1 [(.int .i64 (0)), (ofL []), .snil, .snil] [(0, 4, (.s 38))]),
 iq 40 (.app 4 (.s 36) (.s 39)),
 iq 3 (.mv (.s 40))] [([33], [37])])))
 (.reg [iq 41 (.bin .add (.s 29) (.c (.int .i64 (1)))),
 iq 29 (.mv (.s 41))])))))))
 (.seq
 (.reg [iq 42 (.mv (.s 3)),
 iq 2 (.mv (.s 42))])
 .ret)))))) }
theorem cf22_ok : compFn Try.prog Try.f22 [[1, 3], [1, 3, 9, 10, 11], [1, 3, 9, 10, 11], [1, 3, 9, 10, 11], [3], [3, 27, 28, 29], [3, 27, 28, 29], [3, 27, 28, 29]] = some cf_shape_every := by kernel_rfl
/- (*sprue/shape.looker).opts -/
def cf_shape_looker_opts : Eva.Fn := { ntmps := 45, res := [(.s 4)], body :=
 (.seq
 (.reg [iq 3 (.box (.s 1)),
 iq 4 (.mv (.c (.bool false)))])
 (.seqj [0, 3]
 (.seq
 (.reg [iq 6 (.faddr 0 (.s 3)),
 iq 7 (.load1 (.s 6)),
 iq 8 (.eq (.one .i) false (.s 7) (.c (.int .i64 (6)))),
 iq 9 (.mv (.s 8)),
 ig 10 9 true (.faddr 3 (.s 3)),
 ig 11 9 true (.load1 (.s 10)),
 ig 12 9 true (.lenL (.s 11)),
 ig 13 9 true (.eq (.one .i) false (.s 12) (.c (.int .i64 (1)))),
 iq 14 (.pick (.s 9) (.s 13) (.c (.bool false)))])
 (.cond (.s 14)
 (.seq
 (.reg [iq 15 (.faddr 3 (.s 3)),
 iq 16 (.load1 (.s 15)),
 iq 17 (.iaddrS 4 (.s 16) (.c (.int .i64 (0)))),
 iq 18 (.loadn 4 (.s 17)),
 iq 5 (.alloc [(.int .i64 (0)), (ofL []), .snil, .snil]),
 iz (.store 4 (.s 5) (.s 18))])
 (.seqj [0, 3, 5]
 (.seq
 (.reg [iq 19 (.mv (.s 0)),
 iq 20 (.nilck (.s 19)),
 iq 21 (.faddr 0 (.s 20)),
 iq 22 (.load1 (.s 21)),
 iq 23 (.rngM (.s 22))])
 (.block 0
 (.loop [0, 3, 5, 23]
 (.seq
 (.reg [iq 24 (.nextM (.s 23)),
 iq 25 (.ext 0 (.s 24))])
 (.seqj [0, 3, 5, 23]
 (.cond (.s 25)
 .skip
 (.exit 0))
 (.block 1
 (.seq
 (.reg [iq 27 (.faddr 0 (.s 5)),
 iq 28 (.load1 (.s 27)),
 iq 29 (.eq (.one .i) false (.s 28) (.c (.int .i64 (9))))])
 (.cond (.s 29)
 (.drw [iq 30 (.mv (.s 0)),
 iq 31 (.nilck (.s 30)),
 iq 32 (.faddr 0 (.s 31)),
 iq 33 (.load1 (.s 32)),
 iq 34 (.faddr 1 (.s 5)),
 iq 35 (.load1 (.s 34)),
 iq 36 (.lookup (.one .s) (.agg [(.int .i64 (0)), (ofL []), .snil, .snil]) false (.s 33) (.s 35)),
 iz (.store 4 (.s 5) (.s 36))] [])
 .skip))))))))
 (.seq
 (.reg [iq 37 (.faddr 0 (.s 5)),
 iq 38 (.load1 (.s 37)),
 iq 39 (.eq (.one .i) false (.s 38) (.c (.int .i64 (6))))])
 (.cond (.s 39)
 (.seq
 (.reg [iq 4 (.mv (.c (.bool true)))])
 .ret)
 .skip))))
 .skip))
 (.seq
 (.reg [iq 40 (.faddr 3 (.s 3)),
 iq 41 (.load1 (.s 40)),
 iq 42 (.mv (.s 0)),
 iq 43 (.mkfn 23 [(.s 42)] []),
 iq 44 (.call 21 [(.s 41), (.s 43)]),
 iq 4 (.mv (.s 44))])
 .ret))) }
theorem cf23_ok : compFn Try.prog Try.f23 [[0, 3], [0, 3, 5], [0, 3, 5, 23], [0, 3, 5, 23]] = some cf_shape_looker_opts := by kernel_rfl
/- sprue/spruelaw3.FewAll -/
def cf_spruelaw3_FewAll : Eva.Fn := { ntmps := 46, res := [(.s 6)], body :=
 (.seq
 (.reg [iq 3 (.box (.s 0)),
 iq 6 (.mv (.c (.bool false)))])
 (.seqj [1, 2]
 (.seq
 (.reg [iq 9 (.loadn 4 (.s 3)),
 iq 10 (.call 13 [(.s 9), (.c (.int .i64 (60)))]),
 iq 11 (.eq (.one .i) false (.s 10) (.c (.int .i64 (0)))),
 iq 12 (.mv (.s 11)),
 ig 13 12 false (.mv (.s 1)),
 ig 14 12 false (.lenL (.s 13)),
 ig 15 12 false (.bin .gtr (.s 14) (.c (.int .i64 (6)))),
 iq 16 (.pick (.s 12) (.c (.bool true)) (.s 15)),
 iq 17 (.mv (.s 16)),
 ig 18 17 false (.mv (.s 2)),
 ig 19 17 false (.lenL (.s 18)),
 ig 20 17 false (.bin .gtr (.s 19) (.c (.int .i64 (6)))),
 iq 21 (.pick (.s 17) (.c (.bool true)) (.s 20))])
 (.cond (.s 21)
 (.seq
 (.reg [iq 6 (.mv (.c (.bool false)))])
 .ret)
 .skip))
 (.seqj [2]
 (.seq
 (.reg [iq 7 (.mv (.c (.int .i64 (0))))])
 (.block 0
 (.loop [1, 2, 7]
 (.seqj [1, 2, 7]
 (.seq
 (.reg [iq 22 (.mv (.s 7)),
 iq 23 (.mv (.s 1)),
 iq 24 (.lenL (.s 23)),
 iq 25 (.bin .lss (.s 22) (.s 24))])
 (.cond (.s 25)
 .skip
 (.exit 0)))
 (.seqj [1, 2, 7]
 (.block 1
 (.seq
 (.reg [iq 28 (.mv (.s 1)),
 iq 29 (.mv (.s 7)),
 iq 30 (.iaddrS 4 (.s 28) (.s 29)),
 iq 31 (.loadn 4 (.s 30)),
 iq 32 (.call 13 [(.s 31), (.c (.int .i64 (30)))]),
 iq 33 (.eq (.one .i) false (.s 32) (.c (.int .i64 (0))))])
 (.cond (.s 33)
 (.seq
 (.reg [iq 6 (.mv (.c (.bool false)))])
 .ret)
 .skip)))
 (.reg [iq 26 (.mv (.s 7)),
 iq 27 (.bin .add (.s 26) (.c (.int .i64 (1)))),
 iq 7 (.mv (.s 27))]))))))
 (.seqj []
 (.seq
 (.reg [iq 8 (.mv (.c (.int .i64 (0))))])
 (.block 2
 (.loop [2, 8]
 (.seqj [2, 8]
 (.seq
 (.reg [iq 34 (.mv (.s 8)),
 iq 35 (.mv (.s 2)),
 iq 36 (.lenL (.s 35)),
 iq 37 (.bin .lss (.s 34) (.s 36))])
 (.cond (.s 37)
 .skip
 (.exit 2)))
 (.seqj [2, 8]
 (.block 3
 (.seq
 (.reg [iq 40 (.mv (.s 2)),
 iq 41 (.mv (.s 8)),
 iq 42 (.iaddrS 4 (.s 40) (.s 41)),
 iq 43 (.loadn 4 (.s 42)),
 iq 44 (.call 13 [(.s 43), (.c (.int .i64 (20)))]),
 iq 45 (.eq (.one .i) false (.s 44) (.c (.int .i64 (0))))])
 (.cond (.s 45)
 (.seq
 (.reg [iq 6 (.mv (.c (.bool false)))])
 .ret)
 .skip)))
 (.reg [iq 38 (.mv (.s 8)),
 iq 39 (.bin .add (.s 38) (.c (.int .i64 (1)))),
 iq 8 (.mv (.s 39))]))))))
 (.seq
 (.reg [iq 6 (.mv (.c (.bool true)))])
 .ret))))) }
theorem cf6_ok : compFn Try.prog Try.f6 [[1, 2], [2], [1, 2, 7], [1, 2, 7], [1, 2, 7], [], [2, 8], [2, 8], [2, 8]] = some cf_spruelaw3_FewAll := by kernel_rfl
/- sprue/spruelaw3.Few -/
def cf_spruelaw3_Few : Eva.Fn := { ntmps := 41, res := [(.s 4)], body :=
 (.seq
 (.reg [iq 2 (.box (.s 0)),
 iq 4 (.mv (.c (.int .i64 (0))))])
 (.seqj [1, 2]
 (.seq
 (.reg [iq 6 (.mv (.s 1)),
 iq 7 (.bin .leq (.s 6) (.c (.int .i64 (0)))),
 iq 8 (.mv (.s 7)),
 ig 9 8 false (.faddr 3 (.s 2)),
 ig 10 8 false (.load1 (.s 9)),
 ig 11 8 false (.lenL (.s 10)),
 ig 12 8 false (.bin .gtr (.s 11) (.c (.int .i64 (10)))),
 iq 13 (.pick (.s 8) (.c (.bool true)) (.s 12)),
 iq 14 (.mv (.s 13)),
 ig 15 14 false (.faddr 2 (.s 2)),
 ig 16 14 false (.load1 (.s 15)),
 ig 17 14 false (.lenL (.s 16)),
 ig 18 14 false (.bin .gtr (.s 17) (.c (.int .i64 (20)))),
 iq 19 (.pick (.s 14) (.c (.bool true)) (.s 18))])
 (.cond (.s 19)
 (.seq
 (.reg [iq 4 (.mv (.c (.int .i64 (0))))])
 .ret)
 .skip))
 (.seq
 (.reg [iq 20 (.mv (.s 1)),
 iq 21 (.bin .sub (.s 20) (.c (.int .i64 (1)))),
 iq 1 (.mv (.s 21))])
 (.seqj [1]
 (.seq
 (.reg [iq 5 (.mv (.c (.int .i64 (0))))])
 (.block 0
 (.loop [1, 2, 5]
 (.seqj [1, 2, 5]
 (.seq
 (.reg [iq 22 (.mv (.s 5)),
 iq 23 (.faddr 3 (.s 2)),
 iq 24 (.load1 (.s 23)),
 iq 25 (.lenL (.s 24)),
 iq 26 (.bin .lss (.s 22) (.s 25)),
 iq 27 (.mv (.s 26)),
 ig 28 27 true (.mv (.s 1)),
 ig 29 27 true (.bin .gtr (.s 28) (.c (.int .i64 (0)))),
 iq 30 (.pick (.s 27) (.s 29) (.c (.bool false)))])
 (.cond (.s 30)
 .skip
 (.exit 0)))
 (.seqj [1, 2, 5]
 (.block 1
 (.reg [iq 33 (.faddr 3 (.s 2)),
 iq 34 (.load1 (.s 33)),
 iq 35 (.mv (.s 5)),
 iq 36 (.iaddrS 4 (.s 34) (.s 35)),
 iq 37 (.loadn 4 (.s 36)),
 iq 38 (.mv (.s 1)),
 iq 39 (.call 13 [(.s 37), (.s 38)]),
 iq 1 (.mv (.s 39))]))
 (.reg [iq 31 (.mv (.s 5)),
 iq 32 (.bin .add (.s 31) (.c (.int .i64 (1)))),
 iq 5 (.mv (.s 32))]))))))
 (.seq
 (.reg [iq 40 (.mv (.s 1)),
 iq 4 (.mv (.s 40))])
 .ret))))) }
theorem cf13_ok : compFn Try.prog Try.f13 [[1, 2], [1], [1, 2, 5], [1, 2, 5], [1, 2, 5]] = some cf_spruelaw3_Few := by kernel_rfl
/- sprue/spruelaw4.tame -/
def cf_spruelaw4_tame : Eva.Fn := { ntmps := 104, res := [(.s 2)], body :=
 (.seq
 (.reg [iq 1 (.box (.s 0)),
 iq 2 (.mv (.c (.bool false)))])
 (.seqj [1]
 (.seq
 (.reg [iq 7 (.faddr 4 (.s 1)),
 iq 8 (.load1 (.s 7)),
 iq 9 (.lenL (.s 8)),
 iq 10 (.bin .gtr (.s 9) (.c (.int .i64 (20)))),
 iq 11 (.mv (.s 10)),
 ig 12 11 false (.faddr 5 (.s 1)),
 ig 13 11 false (.load1 (.s 12)),
 ig 14 11 false (.lenL (.s 13)),
 ig 15 11 false (.bin .gtr (.s 14) (.c (.int .i64 (20)))),
 iq 16 (.pick (.s 11) (.c (.bool true)) (.s 15)),
 iq 17 (.mv (.s 16)),
 ig 18 17 false (.faddr 0 (.s 1)),
 ig 19 17 false (.faddr 3 (.s 18)),
 ig 20 17 false (.load1 (.s 19)),
 ig 21 17 false (.lenL (.s 20)),
 ig 22 17 false (.bin .gtr (.s 21) (.c (.int .i64 (20)))),
 iq 23 (.pick (.s 17) (.c (.bool true)) (.s 22))])
 (.cond (.s 23)
 (.seq
 (.reg [iq 2 (.mv (.c (.bool false)))])
 .ret)
 .skip))
 (.seq
 (.reg [iq 24 (.faddr 0 (.s 1)),
 iq 25 (.loadn 4 (.s 24)),
 iq 26 (.call 8 [(.s 25), (.c (.int .i64 (600)))]),
 iq 3 (.mv (.s 26))])
 (.seqj [1, 3]
 (.seq
 (.reg [iq 4 (.mv (.c (.int .i64 (0))))])
 (.block 0
 (.loop [1, 3, 4]
 (.seqj [1, 3, 4]
 (.seq
 (.reg [iq 27 (.mv (.s 4)),
 iq 28 (.faddr 4 (.s 1)),
 iq 29 (.load1 (.s 28)),
 iq 30 (.lenL (.s 29)),
 iq 31 (.bin .lss (.s 27) (.s 30)),
 iq 32 (.mv (.s 31)),
 ig 33 32 true (.mv (.s 3)),
 ig 34 32 true (.bin .lss (.s 33) (.c (.int .i64 (600)))),
 iq 35 (.pick (.s 32) (.s 34) (.c (.bool false)))])
 (.cond (.s 35)
 .skip
 (.exit 0)))
 (.seqj [1, 3, 4]
 (.block 1
 (.reg [iq 38 (.mv (.s 3)),
 iq 39 (.faddr 4 (.s 1)),
 iq 40 (.load1 (.s 39)),
 iq 41 (.mv (.s 4)),
 iq 42 (.iaddrS 5 (.s 40) (.s 41)),
 iq 43 (.faddr 1 (.s 42)),
 iq 44 (.loadn 4 (.s 43)),
 iq 45 (.call 8 [(.s 44), (.c (.int .i64 (600)))]),
 iq 46 (.bin .add (.s 38) (.s 45)),
 iq 3 (.mv (.s 46))]))
 (.reg [iq 36 (.mv (.s 4)),
 iq 37 (.bin .add (.s 36) (.c (.int .i64 (1)))),
 iq 4 (.mv (.s 37))]))))))
 (.seqj [3]
 (.seq
 (.reg [iq 5 (.mv (.c (.int .i64 (0))))])
 (.block 2
 (.loop [1, 3, 5]
 (.seqj [1, 3, 5]
 (.seq
 (.reg [iq 47 (.mv (.s 5)),
 iq 48 (.faddr 5 (.s 1)),
 iq 49 (.load1 (.s 48)),
 iq 50 (.lenL (.s 49)),
 iq 51 (.bin .lss (.s 47) (.s 50)),
 iq 52 (.mv (.s 51)),
 ig 53 52 true (.mv (.s 3)),
 ig 54 52 true (.bin .lss (.s 53) (.c (.int .i64 (600)))),
 iq 55 (.pick (.s 52) (.s 54) (.c (.bool false)))])
 (.cond (.s 55)
 .skip
 (.exit 2)))
 (.seqj [1, 3, 5]
 (.block 3
 (.seqj [1, 3, 5]
 (.seq
 (.reg [iq 58 (.faddr 5 (.s 1)),
 iq 59 (.load1 (.s 58)),
 iq 60 (.mv (.s 5)),
 iq 61 (.iaddrS 6 (.s 59) (.s 60)),
 iq 62 (.faddr 1 (.s 61)),
 iq 63 (.load1 (.s 62)),
 iq 64 (.lenL (.s 63)),
 iq 65 (.bin .gtr (.s 64) (.c (.int .i64 (20))))])
 (.cond (.s 65)
 (.seq
 (.reg [iq 2 (.mv (.c (.bool false)))])
 .ret)
 .skip))
 (.seq
 (.reg [iq 66 (.mv (.s 3)),
 iq 67 (.faddr 5 (.s 1)),
 iq 68 (.load1 (.s 67)),
 iq 69 (.mv (.s 5)),
 iq 70 (.iaddrS 6 (.s 68) (.s 69)),
 iq 71 (.faddr 2 (.s 70)),
 iq 72 (.loadn 4 (.s 71)),
 iq 73 (.call 8 [(.s 72), (.c (.int .i64 (600)))]),
 iq 74 (.bin .add (.s 66) (.s 73)),
 iq 3 (.mv (.s 74))])
 (.seq
 (.reg [iq 6 (.mv (.c (.int .i64 (0))))])
 (.block 4
 (.loop [1, 3, 5, 6]
 (.seqj [1, 3, 5, 6]
 (.seq
 (.reg [iq 75 (.mv (.s 6)),
 iq 76 (.faddr 5 (.s 1)),
 iq 77 (.load1 (.s 76)),
 iq 78 (.mv (.s 5)),
 iq 79 (.iaddrS 6 (.s 77) (.s 78)),
 iq 80 (.faddr 1 (.s 79)),
 iq 81 (.load1 (.s 80)),
 iq 82 (.lenL (.s 81)),
 iq 83 (.bin .lss (.s 75) (.s 82)),
 iq 84 (.mv (.s 83)),
 ig 85 84 true (.mv (.s 3)),
 ig 86 84 true (.bin .lss (.s 85) (.c (.int .i64 (600)))),
 iq 87 (.pick (.s 84) (.s 86) (.c (.bool false)))])
 (.cond (.s 87)
 .skip
 (.exit 4)))
 (.seqj [1, 3, 5, 6]
 (.block 5
 (.reg [iq 90 (.mv (.s 3)),
 iq 91 (.faddr 5 (.s 1)),
 iq 92 (.load1 (.s 91)),
 iq 93 (.mv (.s 5)),
 iq 94 (.iaddrS 6 (.s 92) (.s 93)),
 iq 95 (.faddr 1 (.s 94)),
 iq 96 (.load1 (.s 95)),
 iq 97 (.mv (.s 6)),
 iq 98 (.iaddrS 4 (.s 96) (.s 97)),
 iq 99 (.loadn 4 (.s 98)),
 iq 100 (.call 8 [(.s 99), (.c (.int .i64 (600)))]),
 iq 101 (.bin .add (.s 90) (.s 100)),
 iq 3 (.mv (.s 101))]))
 (.reg [iq 88 (.mv (.s 6)),
 iq 89 (.bin .add (.s 88) (.c (.int .i64 (1)))),
 iq 6 (.mv (.s 89))])))))))))
 (.reg [iq 56 (.mv (.s 5)),
 iq 57 (.bin .add (.s 56) (.c (.int .i64 (1)))),
 iq 5 (.mv (.s 57))]))))))
 (.seq
 (.reg [iq 102 (.mv (.s 3)),
 iq 103 (.bin .lss (.s 102) (.c (.int .i64 (600)))),
 iq 2 (.mv (.s 103))])
 .ret)))))) }
theorem cf7_ok : compFn Try.prog Try.f7 [[1], [1, 3], [1, 3, 4], [1, 3, 4], [1, 3, 4], [3], [1, 3, 5], [1, 3, 5], [1, 3, 5], [1, 3, 5], [1, 3, 5, 6], [1, 3, 5, 6], [1, 3, 5, 6]] = some cf_spruelaw4_tame := by kernel_rfl
/- sprue/spruelaw4.Size -/
def cf_spruelaw4_Size : Eva.Fn := { ntmps := 31, res := [(.s 4)], body :=
 (.seq
 (.reg [iq 2 (.box (.s 0)),
 iq 4 (.mv (.c (.int .i64 (0))))])
 (.seq
 (.reg [iq 5 (.mv (.c (.int .i64 (1))))])
 (.seqj [5]
 (.seq
 (.reg [iq 6 (.mv (.c (.int .i64 (0))))])
 (.block 0
 (.loop [1, 2, 5, 6]
 (.seqj [1, 2, 5, 6]
 (.seq
 (.reg [iq 7 (.mv (.s 6)),
 iq 8 (.faddr 3 (.s 2)),
 iq 9 (.load1 (.s 8)),
 iq 10 (.lenL (.s 9)),
 iq 11 (.bin .lss (.s 7) (.s 10)),
 iq 12 (.mv (.s 11)),
 ig 13 12 true (.mv (.s 5)),
 ig 14 12 true (.mv (.s 1)),
 ig 15 12 true (.bin .lss (.s 13) (.s 14)),
 iq 16 (.pick (.s 12) (.s 15) (.c (.bool false)))])
 (.cond (.s 16)
 .skip
 (.exit 0)))
 (.seqj [1, 2, 5, 6]
 (.block 1
 (.reg [iq 19 (.mv (.s 5)),
 iq 20 (.faddr 3 (.s 2)),
 iq 21 (.load1 (.s 20)),
 iq 22 (.mv (.s 6)),
 iq 23 (.iaddrS 4 (.s 21) (.s 22)),
 iq 24 (.loadn 4 (.s 23)),
 iq 25 (.mv (.s 1)),
 iq 26 (.mv (.s 5)),
 iq 27 (.bin .sub (.s 25) (.s 26)),
 iq 28 (.call 8 [(.s 24), (.s 27)]),
 iq 29 (.bin .add (.s 19) (.s 28)),
 iq 5 (.mv (.s 29))]))
 (.reg [iq 17 (.mv (.s 6)),
 iq 18 (.bin .add (.s 17) (.c (.int .i64 (1)))),
 iq 6 (.mv (.s 18))]))))))
 (.seq
 (.reg [iq 30 (.mv (.s 5)),
 iq 4 (.mv (.s 30))])
 .ret)))) }
theorem cf8_ok : compFn Try.prog Try.f8 [[5], [1, 2, 5, 6], [1, 2, 5, 6], [1, 2, 5, 6]] = some cf_spruelaw4_Size := by kernel_rfl
/- sprue/spruelaw3.Schema -/
def cf_spruelaw3_Schema : Eva.Fn := { ntmps := 114, res := [(.cn 6 6)], body :=
 (.seq
 (.reg [iq 3 (.box (.s 0)),
 iq 6 (.alloc [(.int .i64 (0)), (ofL []), .snil, .snil, .snil, .snil])])
 (.seq
 (.reg [iq 7 (.alloc [(.int .i64 (0)), (ofL []), .snil, .snil, .snil, .snil])])
 (.seq
 (.reg [iq 8 (.mv (.c .snil))])
 (.seqj [1, 2, 3, 6, 7, 8]
 (.seq
 (.reg [iq 9 (.mv (.c (.int .i64 (0))))])
 (.block 0
 (.loop [1, 2, 3, 6, 7, 8, 9]
 (.seqj [1, 2, 3, 6, 7, 8, 9]
 (.seq
 (.reg [iq 14 (.mv (.s 9)),
 iq 15 (.mv (.s 1)),
 iq 16 (.lenL (.s 15)),
 iq 17 (.bin .lss (.s 14) (.s 16)),
 iq 18 (.mv (.s 17)),
 ig 19 18 true (.mv (.s 9)),
 ig 20 18 true (.bin .lss (.s 19) (.c (.int .i64 (4)))),
 iq 21 (.pick (.s 18) (.s 20) (.c (.bool false)))])
 (.cond (.s 21)
 .skip
 (.exit 0)))
 (.seqj [1, 2, 3, 6, 7, 8, 9]
 (.block 1
 (.reg [iq 24 (.mv (.s 8)),
 iq 25 (.bsl 1 4 [(ofL []), (ofL []), (ofL []), (ofL [])] [(0, 1, (.c (ofL [65]))), (1, 1, (.c (ofL [66, 101, 101]))), (2, 1, (.c (ofL [67, 97, 116]))), (3, 1, (.c (ofL [68, 111, 103])))]),
 iq 26 (.mv (.s 9)),
 iq 27 (.iaddrS 1 (.s 25) (.s 26)),
 iq 28 (.load1 (.s 27)),
 iq 29 (.bsl 1 1 [(ofL [])] [(0, 1, (.s 28))]),
 iq 30 (.app 1 (.s 24) (.s 29)),
 iq 8 (.mv (.s 30))]))
 (.reg [iq 22 (.mv (.s 9)),
 iq 23 (.bin .add (.s 22) (.c (.int .i64 (1)))),
 iq 9 (.mv (.s 23))]))))))
 (.seqj [2, 3, 6, 7, 8]
 (.seq
 (.reg [iq 10 (.mv (.c (.int .i64 (0))))])
 (.block 2
 (.loop [1, 2, 3, 6, 7, 8, 10]
 (.seqj [1, 2, 3, 6, 7, 8, 10]
 (.seq
 (.reg [iq 31 (.mv (.s 10)),
 iq 32 (.mv (.s 8)),
 iq 33 (.lenL (.s 32)),
 iq 34 (.bin .lss (.s 31) (.s 33))])
 (.cond (.s 34)
 .skip
 (.exit 2)))
 (.seqj [1, 2, 3, 6, 7, 8, 10]
 (.block 3
 (.drw [iq 37 (.faddr 4 (.s 7)),
 iq 38 (.load1 (.s 37)),
 iq 39 (.mv (.s 8)),
 iq 40 (.mv (.s 10)),
 iq 41 (.iaddrS 1 (.s 39) (.s 40)),
 iq 42 (.load1 (.s 41)),
 iq 43 (.mv (.s 1)),
 iq 44 (.mv (.s 10)),
 iq 45 (.iaddrS 4 (.s 43) (.s 44)),
 iq 46 (.loadn 4 (.s 45)),
 iq 47 (.mv (.s 8)),
 ⟨(some 48), (.call 16 [(.s 46), (.c (.int .i64 (5))), (.s 47)]), none, (some [37, 41])⟩,
 iq 49 (.build [(ofL []), (.int .i64 (0)), (ofL []), .snil, .snil] [(0, 1, (.s 42)), (1, 4, (.s 48))]),
 iq 50 (.bsl 5 1 [(ofL []), (.int .i64 (0)), (ofL []), .snil, .snil] [(0, 5, (.s 49))]),
 iq 51 (.app 5 (.s 38) (.s 50)),
 iq 52 (.faddr 4 (.s 7)),
 iz (.store 1 (.s 52) (.s 51))] []))
 (.reg [iq 35 (.mv (.s 10)),
 iq 36 (.bin .add (.s 35) (.c (.int .i64 (1)))),
 iq 10 (.mv (.s 36))]))))))
 (.seq
 (.reg [iq 53 (.loadn 4 (.s 3)),
 iq 54 (.mv (.s 8)),
 iq 55 (.call 16 [(.s 53), (.c (.int .i64 (6))), (.s 54)]),
 iq 56 (.faddr 0 (.s 7)),
 iz (.store 4 (.s 56) (.s 55))])
 (.seqj [6, 7]
 (.seq
 (.reg [iq 11 (.mv (.c (.int .i64 (0))))])
 (.block 4
 (.loop [2, 6, 7, 8, 11]
 (.seqj [2, 6, 7, 8, 11]
 (.seq
 (.reg [iq 57 (.mv (.s 11)),
 iq 58 (.mv (.s 2)),
 iq 59 (.lenL (.s 58)),
 iq 60 (.bin .lss (.s 57) (.s 59)),
 iq 61 (.mv (.s 60)),
 ig 62 61 true (.mv (.s 11)),
 ig 63 61 true (.bin .lss (.s 62) (.c (.int .i64 (4)))),
 iq 64 (.pick (.s 61) (.s 63) (.c (.bool false)))])
 (.cond (.s 64)
 .skip
 (.exit 4)))
 (.seqj [2, 6, 7, 8, 11]
 (.block 5
 (.seq
 (.drw [iq 67 (.bsl 1 4 [(ofL []), (ofL []), (ofL []), (ofL [])] [(0, 1, (.c (ofL [102, 97]))), (1, 1, (.c (ofL [102, 98]))), (2, 1, (.c (ofL [102, 99]))), (3, 1, (.c (ofL [102, 100])))]),
 iq 68 (.mv (.s 11)),
 iq 69 (.iaddrS 1 (.s 67) (.s 68)),
 iq 70 (.load1 (.s 69)),
 iq 71 (.mv (.s 2)),
 iq 72 (.mv (.s 11)),
 iq 73 (.iaddrS 4 (.s 71) (.s 72)),
 iq 74 (.loadn 4 (.s 73)),
 iq 75 (.mv (.s 8)),
 ⟨(some 76), (.call 16 [(.s 74), (.c (.int .i64 (4))), (.s 75)]), none, (some [69])⟩,
 iq 77 (.build [(ofL []), .snil, (.int .i64 (0)), (ofL []), .snil, .snil] [(0, 1, (.s 70)), (2, 4, (.s 76))]),
 iq 12 (.alloc [(ofL []), .snil, (.int .i64 (0)), (ofL []), .snil, .snil]),
 iz (.store 6 (.s 12) (.s 77))] [])
 (.seqj [2, 6, 7, 8, 11, 12]
 (.seq
 (.reg [iq 13 (.mv (.c (.int .i64 (0))))])
 (.block 6
 (.loop [2, 6, 7, 8, 11, 12, 13]
 (.seqj [2, 6, 7, 8, 11, 12, 13]
 (.seq
 (.reg [iq 78 (.mv (.s 13)),
 iq 79 (.mv (.s 2)),
 iq 80 (.mv (.s 11)),
 iq 81 (.iaddrS 4 (.s 79) (.s 80)),
 iq 82 (.faddr 3 (.s 81)),
 iq 83 (.load1 (.s 82)),
 iq 84 (.lenL (.s 83)),
 iq 85 (.bin .lss (.s 78) (.s 84)),
 iq 86 (.mv (.s 85)),
 ig 87 86 true (.mv (.s 13)),
 ig 88 86 true (.bin .lss (.s 87) (.c (.int .i64 (3)))),
 iq 89 (.pick (.s 86) (.s 88) (.c (.bool false)))])
 (.cond (.s 89)
 .skip
 (.exit 6)))
 (.seqj [2, 6, 7, 8, 11, 12, 13]
 (.block 7
 (.drw [iq 92 (.faddr 1 (.s 12)),
 iq 93 (.load1 (.s 92)),
 iq 94 (.mv (.s 2)),
 iq 95 (.mv (.s 11)),
 iq 96 (.iaddrS 4 (.s 94) (.s 95)),
 iq 97 (.faddr 3 (.s 96)),
 iq 98 (.load1 (.s 97)),
 iq 99 (.mv (.s 13)),
 iq 100 (.iaddrS 4 (.s 98) (.s 99)),
 iq 101 (.loadn 4 (.s 100)),
 iq 102 (.mv (.s 8)),
 ⟨(some 103), (.call 16 [(.s 101), (.c (.int .i64 (4))), (.s 102)]), none, (some [92])⟩,
 iq 104 (.bsl 4 1 [(.int .i64 (0)), (ofL []), .snil, .snil] [(0, 4, (.s 103))]),
 iq 105 (.app 4 (.s 93) (.s 104)),
 iq 106 (.faddr 1 (.s 12)),
 iz (.store 1 (.s 106) (.s 105))] []))
 (.reg [iq 90 (.mv (.s 13)),
 iq 91 (.bin .add (.s 90) (.c (.int .i64 (1)))),
 iq 13 (.mv (.s 91))]))))))
 (.reg [iq 107 (.faddr 5 (.s 7)),
 iq 108 (.load1 (.s 107)),
 iq 109 (.loadn 6 (.s 12)),
 iq 110 (.bsl 6 1 [(ofL []), .snil, (.int .i64 (0)), (ofL []), .snil, .snil] [(0, 6, (.s 109))]),
 iq 111 (.app 6 (.s 108) (.s 110)),
 iq 112 (.faddr 5 (.s 7)),
 iz (.store 1 (.s 112) (.s 111))]))))
 (.reg [iq 65 (.mv (.s 11)),
 iq 66 (.bin .add (.s 65) (.c (.int .i64 (1)))),
 iq 11 (.mv (.s 66))]))))))
 (.seq
 (.reg [iq 113 (.loadn 6 (.s 7)),
 iz (.store 6 (.s 6) (.s 113))])
 .ret)))))))) }
theorem cf9_ok : compFn Try.prog Try.f9 [[1, 2, 3, 6, 7, 8], [1, 2, 3, 6, 7, 8, 9], [1, 2, 3, 6, 7, 8, 9], [1, 2, 3, 6, 7, 8, 9], [2, 3, 6, 7, 8], [1, 2, 3, 6, 7, 8, 10], [1, 2, 3, 6, 7, 8, 10], [1, 2, 3, 6, 7, 8, 10], [6, 7], [2, 6, 7, 8, 11], [2, 6, 7, 8, 11], [2, 6, 7, 8, 11], [2, 6, 7, 8, 11, 12], [2, 6, 7, 8, 11, 12, 13], [2, 6, 7, 8, 11, 12, 13], [2, 6, 7, 8, 11, 12, 13]] = some cf_spruelaw3_Schema := by kernel_rfl
/- sprue/spruelaw3.Tree -/
def cf_spruelaw3_Tree : Eva.Fn := { ntmps := 118, res := [(.cn 6 4)], body :=
 (.seq
 (.reg [iq 3 (.box (.s 0)),
 iq 6 (.alloc [(.int .i64 (0)), (ofL []), .snil, .snil])])
 (.seq
 (.reg [iq 11 (.faddr 0 (.s 3)),
 iq 12 (.load1 (.s 11)),
 iq 13 (.call 33 [(.s 12), (.c (.int .i64 (9)))]),
 iq 14 (.bin .add (.c (.int .i64 (1))) (.s 13)),
 iq 7 (.mv (.s 14))])
 (.seqj [1, 2, 3, 6, 7]
 (.seq
 (.reg [iq 15 (.mv (.s 7)),
 iq 16 (.eq (.one .i) false (.s 15) (.c (.int .i64 (9)))),
 iq 17 (.mv (.s 16)),
 ig 18 17 true (.mv (.s 2)),
 ig 19 17 true (.lenL (.s 18)),
 ig 20 17 true (.eq (.one .i) false (.s 19) (.c (.int .i64 (0)))),
 iq 21 (.pick (.s 17) (.s 20) (.c (.bool false))),
 iq 22 (.mv (.s 21)),
 ig 23 22 false (.mv (.s 1)),
 ig 24 22 false (.bin .leq (.s 23) (.c (.int .i64 (1)))),
 ig 25 22 false (.mv (.s 24)),
 ig 26 25 true (.mv (.s 7)),
 ig 27 25 true (.bin .geq (.s 26) (.c (.int .i64 (4)))),
 ig 28 22 false (.pick (.s 25) (.s 27) (.c (.bool false))),
 ig 29 22 false (.mv (.s 28)),
 ig 30 29 true (.mv (.s 7)),
 ig 31 29 true (.bin .leq (.s 30) (.c (.int .i64 (8)))),
 ig 32 22 false (.pick (.s 29) (.s 31) (.c (.bool false))),
 iq 33 (.pick (.s 22) (.c (.bool true)) (.s 32))])
 (.cond (.s 33)
 (.reg [iq 7 (.mv (.c (.int .i64 (2))))])
 .skip))
 (.seq
 (.reg [iq 34 (.mv (.s 7)),
 iq 35 (.build [(.int .i64 (0)), (ofL []), .snil, .snil] [(0, 1, (.s 34))]),
 iq 8 (.alloc [(.int .i64 (0)), (ofL []), .snil, .snil]),
 iz (.store 4 (.s 8) (.s 35))])
 (.seqj [6, 8]
 (.seq
 (.reg [iq 36 (.mv (.s 7))])
 (.block 0
 (.seq
 (.reg [iq 38 (.eq (.one .i) false (.s 36) (.c (.int .i64 (9)))),
 iq 37 (.mv (.s 38))])
 (.cond (.s 37)
 (.reg [iq 39 (.mv (.s 2)),
 iq 40 (.faddr 1 (.s 3)),
 iq 41 (.load1 (.s 40)),
 iq 42 (.mv (.s 2)),
 iq 43 (.lenL (.s 42)),
 iq 44 (.call 33 [(.s 41), (.s 43)]),
 iq 45 (.iaddrS 1 (.s 39) (.s 44)),
 iq 46 (.load1 (.s 45)),
 iq 47 (.faddr 1 (.s 8)),
 iz (.store 1 (.s 47) (.s 46))])
 (.seqj [1, 2, 3, 6, 7, 8, 36, 48]
 (.seq
 (.reg [iq 49 (.eq (.one .i) false (.s 36) (.c (.int .i64 (4)))),
 iq 48 (.mv (.s 49))])
 (.cond (.s 48)
 .skip
 (.seq
 (.reg [iq 50 (.eq (.one .i) false (.s 36) (.c (.int .i64 (5)))),
 iq 48 (.mv (.s 50))])
 (.cond (.s 48)
 .skip
 (.reg [iq 51 (.eq (.one .i) false (.s 36) (.c (.int .i64 (6)))),
 iq 48 (.mv (.s 51))])))))
 (.cond (.s 48)
 (.seq
 (.reg [iq 52 (.loadn 4 (.s 3)),
 iq 53 (.call 34 [(.s 52), (.c (.int .i64 (0)))]),
 iq 54 (.mv (.s 1)),
 iq 55 (.bin .sub (.s 54) (.c (.int .i64 (1)))),
 iq 56 (.mv (.s 2)),
 iq 57 (.call 16 [(.s 53), (.s 55), (.s 56)]),
 iq 58 (.bsl 4 1 [(.int .i64 (0)), (ofL []), .snil, .snil] [(0, 4, (.s 57))]),
 iq 59 (.faddr 3 (.s 8)),
 iz (.store 1 (.s 59) (.s 58))])
 (.seq
 (.reg [iq 60 (.mv (.s 7)),
 iq 61 (.eq (.one .i) false (.s 60) (.c (.int .i64 (6)))),
 iq 62 (.mv (.s 61)),
 ig 63 62 true (.faddr 3 (.s 8)),
 ig 64 62 true (.load1 (.s 63)),
 ig 65 62 true (.iaddrS 4 (.s 64) (.c (.int .i64 (0)))),
 ig 66 62 true (.faddr 0 (.s 65)),
 ig 67 62 true (.load1 (.s 66)),
 ig 68 62 true (.eq (.one .i) false (.s 67) (.c (.int .i64 (6)))),
 iq 69 (.pick (.s 62) (.s 68) (.c (.bool false)))])
 (.cond (.s 69)
 (.seq
 (.reg [iq 70 (.faddr 3 (.s 8)),
 iq 71 (.load1 (.s 70)),
 iq 72 (.iaddrS 4 (.s 71) (.c (.int .i64 (0)))),
 iq 73 (.loadn 4 (.s 72)),
 iz (.store 4 (.s 6) (.s 73))])
 .ret)
 .skip)))
 (.seqj [1, 2, 3, 6, 7, 8, 74]
 (.seq
 (.reg [iq 75 (.eq (.one .i) false (.s 36) (.c (.int .i64 (7)))),
 iq 74 (.mv (.s 75))])
 (.cond (.s 74)
 .skip
 (.reg [iq 76 (.eq (.one .i) false (.s 36) (.c (.int .i64 (8)))),
 iq 74 (.mv (.s 76))])))
 (.cond (.s 74)
 (.seq
 (.reg [iq 9 (.mv (.c (.int .i64 (0))))])
 (.block 1
 (.loop [1, 2, 3, 6, 7, 8, 9]
 (.seqj [1, 2, 3, 6, 7, 8, 9]
 (.seq
 (.reg [iq 77 (.mv (.s 9)),
 iq 78 (.faddr 2 (.s 3)),
 iq 79 (.load1 (.s 78)),
 iq 80 (.lenL (.s 79)),
 iq 81 (.bin .lss (.s 77) (.s 80)),
 iq 82 (.mv (.s 81)),
 ig 83 82 true (.mv (.s 9)),
 ig 84 82 true (.bin .lss (.s 83) (.c (.int .i64 (4)))),
 iq 85 (.pick (.s 82) (.s 84) (.c (.bool false))),
 iq 86 (.mv (.s 85)),
 ig 87 86 false (.mv (.s 9)),
 ig 88 86 false (.eq (.one .i) false (.s 87) (.c (.int .i64 (0)))),
 ig 89 86 false (.mv (.s 88)),
 ig 90 89 true (.mv (.s 7)),
 ig 91 89 true (.eq (.one .i) false (.s 90) (.c (.int .i64 (8)))),
 ig 92 86 false (.pick (.s 89) (.s 91) (.c (.bool false))),
 iq 93 (.pick (.s 86) (.c (.bool true)) (.s 92))])
 (.cond (.s 93)
 .skip
 (.exit 1)))
 (.seqj [1, 2, 3, 6, 7, 8, 9]
 (.block 2
 (.seq
 (.reg [iq 10 (.mv (.c (ofL [117])))])
 (.seqj [1, 2, 3, 6, 7, 8, 9, 10]
 (.seq
 (.reg [iq 96 (.mv (.s 9)),
 iq 97 (.faddr 2 (.s 3)),
 iq 98 (.load1 (.s 97)),
 iq 99 (.lenL (.s 98)),
 iq 100 (.bin .lss (.s 96) (.s 99))])
 (.cond (.s 100)
 (.reg [iq 101 (.faddr 2 (.s 3)),
 iq 102 (.load1 (.s 101)),
 iq 103 (.mv (.s 9)),
 iq 104 (.iaddrS 1 (.s 102) (.s 103)),
 iq 105 (.load1 (.s 104)),
 iq 106 (.call 35 [(.s 105)]),
 iq 10 (.mv (.s 106))])
 .skip))
 (.drw [iq 107 (.loadn 4 (.s 8)),
 iq 108 (.mv (.s 10)),
 iq 109 (.loadn 4 (.s 3)),
 iq 110 (.mv (.s 9)),
 ⟨(some 111), (.call 34 [(.s 109), (.s 110)]), none, (some [8])⟩,
 iq 112 (.mv (.s 1)),
 iq 113 (.bin .sub (.s 112) (.c (.int .i64 (1)))),
 iq 114 (.mv (.s 2)),
 ⟨(some 115), (.call 16 [(.s 111), (.s 113), (.s 114)]), none, (some [8])⟩,
 ⟨(some 116), (.call 36 [(.s 107), (.s 108), (.s 115)]), none, (some [])⟩,
 iz (.store 4 (.s 8) (.s 116))] []))))
 (.reg [iq 94 (.mv (.s 9)),
 iq 95 (.bin .add (.s 94) (.c (.int .i64 (1)))),
 iq 9 (.mv (.s 95))]))))))
 .skip))))))))
 (.seq
 (.reg [iq 117 (.loadn 4 (.s 8)),
 iz (.store 4 (.s 6) (.s 117))])
 .ret)))))) }
theorem cf16_ok : compFn Try.prog Try.f16 [[1, 2, 3, 6, 7], [6, 8], [1, 2, 3, 6, 7, 8, 36, 48], [1, 2, 3, 6, 7, 8, 74], [1, 2, 3, 6, 7, 8, 9], [1, 2, 3, 6, 7, 8, 9], [1, 2, 3, 6, 7, 8, 9], [1, 2, 3, 6, 7, 8, 9, 10]] = some cf_spruelaw3_Tree := by kernel_rfl
/- sprue/spruelaw3.within -/
def cf_spruelaw3_within : Eva.Fn := { ntmps := 15, res := [(.s 4)], body :=
 (.seq
 (.reg [iq 4 (.mv (.c (.int .i64 (0))))])
 (.seq
 (.reg [iq 6 (.mv (.s 0)),
 iq 7 (.mv (.s 1)),
 iq 8 (.bin .rem (.s 6) (.s 7)),
 iq 5 (.mv (.s 8))])
 (.seqj [5]
 (.seq
 (.reg [iq 9 (.mv (.s 5)),
 iq 10 (.bin .lss (.s 9) (.c (.int .i64 (0))))])
 (.cond (.s 10)
 (.reg [iq 11 (.mv (.s 5)),
 iq 12 (.mv (.s 1)),
 iq 13 (.bin .add (.s 11) (.s 12)),
 iq 5 (.mv (.s 13))])
 .skip))
 (.seq
 (.reg [iq 14 (.mv (.s 5)),
 iq 4 (.mv (.s 14))])
 .ret)))) }
theorem cf33_ok : compFn Try.prog Try.f33 [[5]] = some cf_spruelaw3_within := by kernel_rfl
/- sprue/spruelaw3.kid -/
def cf_spruelaw3_kid : Eva.Fn := { ntmps := 25, res := [(.cn 4 4)], body :=
 (.seq
 (.reg [iq 2 (.box (.s 0)),
 iq 4 (.alloc [(.int .i64 (0)), (.int .i64 (0)), .snil, .snil])])
 (.seqj [1, 2, 4]
 (.seq
 (.reg [iq 5 (.faddr 3 (.s 2)),
 iq 6 (.load1 (.s 5)),
 iq 7 (.lenL (.s 6)),
 iq 8 (.eq (.one .i) false (.s 7) (.c (.int .i64 (0))))])
 (.cond (.s 8)
 (.seq
 (.reg [iq 9 (.faddr 1 (.s 2)),
 iq 10 (.load1 (.s 9)),
 iq 11 (.mv (.s 1)),
 iq 12 (.bin .add (.s 10) (.s 11)),
 iq 13 (.faddr 0 (.s 2)),
 iq 14 (.load1 (.s 13)),
 iq 15 (.build [(.int .i64 (0)), (.int .i64 (0)), .snil, .snil] [(0, 1, (.s 12)), (1, 1, (.s 14))]),
 iz (.store 4 (.s 4) (.s 15))])
 .ret)
 .skip))
 (.seq
 (.drw [iq 16 (.faddr 3 (.s 2)),
 iq 17 (.load1 (.s 16)),
 iq 18 (.mv (.s 1)),
 iq 19 (.faddr 3 (.s 2)),
 iq 20 (.load1 (.s 19)),
 iq 21 (.lenL (.s 20)),
 iq 22 (.bin .rem (.s 18) (.s 21)),
 iq 23 (.iaddrS 4 (.s 17) (.s 22)),
 iq 24 (.loadn 4 (.s 23)),
 iz (.store 4 (.s 4) (.s 24))] [])
 .ret))) }
theorem cf34_ok : compFn Try.prog Try.f34 [[1, 2, 4]] = some cf_spruelaw3_kid := by kernel_rfl
/- sprue/spruelaw3.Name -/
def cf_spruelaw3_Name : Eva.Fn := { ntmps := 8, res := [(.s 2)], body :=
 (.seq
 (.reg [iq 2 (.mv (.c (ofL [])))])
 (.seq
 (.reg [iq 3 (.bsl 1 7 [(ofL []), (ofL []), (ofL []), (ofL []), (ofL []), (ofL []), (ofL [])] [(0, 1, (.c (ofL [97]))), (1, 1, (.c (ofL [98]))), (2, 1, (.c (ofL [99]))), (3, 1, (.c (ofL [110, 97, 109, 101]))), (4, 1, (.c (ofL [110]))), (5, 1, (.c (ofL [73, 110, 116]))), (6, 1, (.c (ofL [116, 121, 112, 101])))]),
 iq 4 (.mv (.s 0)),
 iq 5 (.call 33 [(.s 4), (.c (.int .i64 (7)))]),
 iq 6 (.iaddrS 1 (.s 3) (.s 5)),
 iq 7 (.load1 (.s 6)),
 iq 2 (.mv (.s 7))])
 .ret)) }
theorem cf35_ok : compFn Try.prog Try.f35 [] = some cf_spruelaw3_Name := by kernel_rfl
/- sprue/spruelaw3.put -/
def cf_spruelaw3_put : Eva.Fn := { ntmps := 74, res := [(.cn 6 4)], body :=
 (.seq
 (.reg [iq 3 (.box (.s 0)),
 iq 5 (.box (.s 2)),
 iq 6 (.alloc [(.int .i64 (0)), (ofL []), .snil, .snil])])
 (.seq
 (.reg [iq 7 (.mv (.c (.int .i64 (0))))])
 (.seqj [1, 3, 5, 6, 7]
 (.block 0
 (.loop [1, 3, 5, 6, 7]
 (.seqj [1, 3, 5, 6, 7]
 (.seq
 (.reg [iq 10 (.mv (.s 7)),
 iq 11 (.faddr 2 (.s 3)),
 iq 12 (.load1 (.s 11)),
 iq 13 (.lenL (.s 12)),
 iq 14 (.bin .lss (.s 10) (.s 13)),
 iq 15 (.mv (.s 14)),
 ig 16 15 true (.faddr 2 (.s 3)),
 ig 17 15 true (.load1 (.s 16)),
 ig 18 15 true (.mv (.s 7)),
 ig 19 15 true (.iaddrS 1 (.s 17) (.s 18)),
 ig 20 15 true (.load1 (.s 19)),
 ig 21 15 true (.mv (.s 1)),
 ig 22 15 true (.bin .lss (.s 20) (.s 21)),
 iq 23 (.pick (.s 15) (.s 22) (.c (.bool false)))])
 (.cond (.s 23)
 .skip
 (.exit 0)))
 (.block 1
 (.reg [iq 24 (.mv (.s 7)),
 iq 25 (.bin .add (.s 24) (.c (.int .i64 (1)))),
 iq 7 (.mv (.s 25))])))))
 (.seqj [1, 3, 5, 6, 7]
 (.seq
 (.reg [iq 26 (.mv (.s 7)),
 iq 27 (.faddr 2 (.s 3)),
 iq 28 (.load1 (.s 27)),
 iq 29 (.lenL (.s 28)),
 iq 30 (.bin .lss (.s 26) (.s 29)),
 iq 31 (.mv (.s 30)),
 ig 32 31 true (.faddr 2 (.s 3)),
 ig 33 31 true (.load1 (.s 32)),
 ig 34 31 true (.mv (.s 7)),
 ig 35 31 true (.iaddrS 1 (.s 33) (.s 34)),
 ig 36 31 true (.load1 (.s 35)),
 ig 37 31 true (.mv (.s 1)),
 ig 38 31 true (.eq (.one .s) false (.s 36) (.s 37)),
 iq 39 (.pick (.s 31) (.s 38) (.c (.bool false)))])
 (.cond (.s 39)
 (.seq
 (.reg [iq 40 (.loadn 4 (.s 3)),
 iz (.store 4 (.s 6) (.s 40))])
 .ret)
 .skip))
 (.seq
 (.reg [iq 41 (.bsl 1 0 [] []),
 iq 42 (.faddr 2 (.s 3)),
 iq 43 (.load1 (.s 42)),
 iq 44 (.mv (.s 7)),
 iq 45 (.cutL 1 (.s 43) none (some (.s 44)) none),
 iq 46 (.app 1 (.s 41) (.s 45)),
 iq 8 (.mv (.s 46))])
 (.seq
 (.reg [iq 47 (.bsl 4 0 [] []),
 iq 48 (.faddr 3 (.s 3)),
 iq 49 (.load1 (.s 48)),
 iq 50 (.mv (.s 7)),
 iq 51 (.cutL 4 (.s 49) none (some (.s 50)) none),
 iq 52 (.app 4 (.s 47) (.s 51)),
 iq 9 (.mv (.s 52))])
 (.seq
 (.drw [iq 53 (.mv (.s 8)),
 iq 54 (.mv (.s 1)),
 iq 55 (.bsl 1 1 [(ofL [])] [(0, 1, (.s 54))]),
 iq 56 (.app 1 (.s 53) (.s 55)),
 iq 57 (.faddr 2 (.s 3)),
 iq 58 (.load1 (.s 57)),
 iq 59 (.mv (.s 7)),
 iq 60 (.cutL 1 (.s 58) (some (.s 59)) none none),
 iq 61 (.app 1 (.s 56) (.s 60)),
 iq 62 (.mv (.s 9)),
 iq 63 (.loadn 4 (.s 5)),
 iq 64 (.bsl 4 1 [(.int .i64 (0)), (ofL []), .snil, .snil] [(0, 4, (.s 63))]),
 iq 65 (.app 4 (.s 62) (.s 64)),
 iq 66 (.faddr 3 (.s 3)),
 iq 67 (.load1 (.s 66)),
 iq 68 (.mv (.s 7)),
 iq 69 (.cutL 4 (.s 67) (some (.s 68)) none none),
 iq 70 (.app 4 (.s 65) (.s 69)),
 iq 71 (.faddr 2 (.s 3)),
 iz (.store 1 (.s 71) (.s 61)),
 iq 72 (.faddr 3 (.s 3)),
 iz (.store 1 (.s 72) (.s 70))] [([53], [57]), ([53], [5]), ([53], [66]), ([56], [5]), ([56], [66]), ([62], [66])])
 (.seq
 (.reg [iq 73 (.loadn 4 (.s 3)),
 iz (.store 4 (.s 6) (.s 73))])
 .ret)))))))) }
theorem cf36_ok : compFn Try.prog Try.f36 [[1, 3, 5, 6, 7], [1, 3, 5, 6, 7], [1, 3, 5, 6, 7], [1, 3, 5, 6, 7]] = some cf_spruelaw3_put := by kernel_rfl
/- sprue/sprueref4.Check -/
def cf_sprueref4_Check : Eva.Fn := { ntmps := 182, res := [(.s 2)], body :=
 (.seq
 (.reg [iq 1 (.box (.s 0)),
 iq 2 (.mv (.c (.int .i64 (0))))])
 (.seqj [1]
 (.seq
 (.reg [iq 12 (.faddr 4 (.s 1)),
 iq 13 (.load1 (.s 12)),
 iq 14 (.lenL (.s 13)),
 iq 15 (.bin .gtr (.s 14) (.c (.int .i64 (12)))),
 iq 16 (.mv (.s 15)),
 ig 17 16 false (.faddr 5 (.s 1)),
 ig 18 16 false (.load1 (.s 17)),
 ig 19 16 false (.lenL (.s 18)),
 ig 20 16 false (.bin .gtr (.s 19) (.c (.int .i64 (12)))),
 iq 21 (.pick (.s 16) (.c (.bool true)) (.s 20))])
 (.cond (.s 21)
 (.seq
 (.reg [iq 2 (.mv (.c (.int .i64 (3))))])
 .ret)
 .skip))
 (.seqj [1]
 (.seq
 (.reg [iq 3 (.mv (.c (.int .i64 (0))))])
 (.block 0
 (.loop [1, 3]
 (.seqj [1, 3]
 (.seq
 (.reg [iq 22 (.mv (.s 3)),
 iq 23 (.faddr 4 (.s 1)),
 iq 24 (.load1 (.s 23)),
 iq 25 (.lenL (.s 24)),
 iq 26 (.bin .lss (.s 22) (.s 25))])
 (.cond (.s 26)
 .skip
 (.exit 0)))
 (.seqj [1, 3]
 (.block 1
 (.seqj [1, 3]
 (.seq
 (.reg [iq 29 (.faddr 4 (.s 1)),
 iq 30 (.load1 (.s 29)),
 iq 31 (.mv (.s 3)),
 iq 32 (.iaddrS 5 (.s 30) (.s 31)),
 iq 33 (.faddr 0 (.s 32)),
 iq 34 (.load1 (.s 33)),
 iq 35 (.call 24 [(.s 34)]),
 iq 36 (.not (.s 35)),
 iq 37 (.mv (.s 36)),
 ig 38 37 false (.faddr 4 (.s 1)),
 ig 39 37 false (.load1 (.s 38)),
 ig 40 37 false (.mv (.s 3)),
 ig 41 37 false (.iaddrS 5 (.s 39) (.s 40)),
 ig 42 37 false (.faddr 0 (.s 41)),
 ig 43 37 false (.load1 (.s 42)),
 ig 44 37 false (.call 25 [(.s 43)]),
 iq 45 (.pick (.s 37) (.c (.bool true)) (.s 44))])
 (.cond (.s 45)
 (.seq
 (.reg [iq 2 (.mv (.c (.int .i64 (15))))])
 .ret)
 .skip))
 (.seq
 (.drw [iq 46 (.mv (.s 3)),
 iq 47 (.bin .gtr (.s 46) (.c (.int .i64 (0)))),
 iq 48 (.mv (.s 47)),
 ig 49 48 true (.faddr 4 (.s 1)),
 ig 50 48 true (.load1 (.s 49)),
 ig 51 48 true (.mv (.s 3)),
 ig 52 48 true (.iaddrS 5 (.s 50) (.s 51)),
 ig 53 48 true (.faddr 0 (.s 52)),
 ig 54 48 true (.load1 (.s 53)),
 ig 55 48 true (.faddr 4 (.s 1)),
 ig 56 48 true (.load1 (.s 55)),
 ig 57 48 true (.mv (.s 3)),
 ig 58 48 true (.bin .sub (.s 57) (.c (.int .i64 (1)))),
 ig 59 48 true (.iaddrS 5 (.s 56) (.s 58)),
 ig 60 48 true (.faddr 0 (.s 59)),
 ig 61 48 true (.load1 (.s 60)),
 ig 62 48 true (.bin .leq (.s 54) (.s 61)),
 iq 63 (.pick (.s 48) (.s 62) (.c (.bool false)))] [])
 (.cond (.s 63)
 (.seq
 (.reg [iq 2 (.mv (.c (.int .i64 (6))))])
 .ret)
 .skip))))
 (.reg [iq 27 (.mv (.s 3)),
 iq 28 (.bin .add (.s 27) (.c (.int .i64 (1)))),
 iq 3 (.mv (.s 28))]))))))
 (.seq
 (.reg [iq 64 (.loadn 6 (.s 1)),
 iq 65 (.build [(.int .i64 (0)), (ofL []), .snil, .snil, .snil, .snil, (.int .i64 (0))] [(0, 6, (.s 64))]),
 iq 66 (.box (.s 65)),
 iq 4 (.mv (.s 66))])
 (.seq
 (.reg [iq 5 (.mv (.c (.int .i64 (0))))])
 (.seqj [1, 4, 5]
 (.seq
 (.reg [iq 6 (.mv (.c (.int .i64 (0))))])
 (.block 2
 (.loop [1, 4, 5, 6]
 (.seqj [1, 4, 6]
 (.seq
 (.reg [iq 67 (.mv (.s 6)),
 iq 68 (.faddr 4 (.s 1)),
 iq 69 (.load1 (.s 68)),
 iq 70 (.lenL (.s 69)),
 iq 71 (.bin .lss (.s 67) (.s 70)),
 iq 72 (.mv (.s 71)),
 ig 73 72 true (.mv (.s 5)),
 ig 74 72 true (.eq (.one .i) false (.s 73) (.c (.int .i64 (0)))),
 iq 75 (.pick (.s 72) (.s 74) (.c (.bool false)))])
 (.cond (.s 75)
 .skip
 (.exit 2)))
 (.seqj [1, 4, 5, 6]
 (.block 3
 (.reg [iq 78 (.mv (.s 4)),
 iq 79 (.faddr 4 (.s 1)),
 iq 80 (.load1 (.s 79)),
 iq 81 (.mv (.s 6)),
 iq 82 (.iaddrS 5 (.s 80) (.s 81)),
 iq 83 (.faddr 1 (.s 82)),
 iq 84 (.loadn 4 (.s 83)),
 iq 85 (.call 26 [(.s 78), (.s 84), (.c (.int .i64 (1)))]),
 iq 5 (.mv (.s 85))]))
 (.reg [iq 76 (.mv (.s 6)),
 iq 77 (.bin .add (.s 76) (.c (.int .i64 (1)))),
 iq 6 (.mv (.s 77))]))))))
 (.seqj [1, 4, 5]
 (.seq
 (.reg [iq 86 (.mv (.s 5)),
 iq 87 (.eq (.one .i) false (.s 86) (.c (.int .i64 (0))))])
 (.cond (.s 87)
 (.reg [iq 88 (.mv (.s 4)),
 iq 89 (.faddr 0 (.s 1)),
 iq 90 (.loadn 4 (.s 89)),
 iq 91 (.call 26 [(.s 88), (.s 90), (.c (.int .i64 (1)))]),
 iq 5 (.mv (.s 91))])
 .skip))
 (.seqj [1, 4, 5]
 (.seq
 (.reg [iq 92 (.mv (.s 5)),
 iq 93 (.eq (.one .i) true (.s 92) (.c (.int .i64 (0))))])
 (.cond (.s 93)
 (.seq
 (.reg [iq 94 (.mv (.s 5)),
 iq 2 (.mv (.s 94))])
 .ret)
 .skip))
 (.seqj [1]
 (.seq
 (.reg [iq 7 (.mv (.c (.int .i64 (0))))])
 (.block 4
 (.loop [1, 4, 5, 7]
 (.seqj [1, 4, 5, 7]
 (.seq
 (.reg [iq 95 (.mv (.s 7)),
 iq 96 (.faddr 5 (.s 1)),
 iq 97 (.load1 (.s 96)),
 iq 98 (.lenL (.s 97)),
 iq 99 (.bin .lss (.s 95) (.s 98))])
 (.cond (.s 99)
 .skip
 (.exit 4)))
 (.seqj [1, 4, 5, 7]
 (.block 5
 (.seq
 (.reg [iq 102 (.faddr 5 (.s 1)),
 iq 103 (.load1 (.s 102)),
 iq 104 (.mv (.s 7)),
 iq 105 (.iaddrS 6 (.s 103) (.s 104)),
 iq 106 (.loadn 6 (.s 105)),
 iq 8 (.alloc [(ofL []), .snil, (.int .i64 (0)), (ofL []), .snil, .snil]),
 iz (.store 6 (.s 8) (.s 106))])
 (.seqj [1, 4, 5, 7, 8]
 (.seq
 (.reg [iq 107 (.faddr 0 (.s 8)),
 iq 108 (.load1 (.s 107)),
 iq 109 (.call 24 [(.s 108)]),
 iq 110 (.not (.s 109)),
 iq 111 (.mv (.s 110)),
 ig 112 111 false (.faddr 0 (.s 8)),
 ig 113 111 false (.load1 (.s 112)),
 ig 114 111 false (.call 27 [(.s 113)]),
 iq 115 (.pick (.s 111) (.c (.bool true)) (.s 114))])
 (.cond (.s 115)
 (.seq
 (.reg [iq 2 (.mv (.c (.int .i64 (15))))])
 .ret)
 .skip))
 (.seqj [1, 4, 5, 7, 8]
 (.seq
 (.drw [iq 116 (.mv (.s 7)),
 iq 117 (.bin .gtr (.s 116) (.c (.int .i64 (0)))),
 iq 118 (.mv (.s 117)),
 ig 119 118 true (.faddr 0 (.s 8)),
 ig 120 118 true (.load1 (.s 119)),
 ig 121 118 true (.faddr 5 (.s 1)),
 ig 122 118 true (.load1 (.s 121)),
 ig 123 118 true (.mv (.s 7)),
 ig 124 118 true (.bin .sub (.s 123) (.c (.int .i64 (1)))),
 ig 125 118 true (.iaddrS 6 (.s 122) (.s 124)),
 ig 126 118 true (.faddr 0 (.s 125)),
 ig 127 118 true (.load1 (.s 126)),
 ig 128 118 true (.bin .leq (.s 120) (.s 127)),
 iq 129 (.pick (.s 118) (.s 128) (.c (.bool false)))] [])
 (.cond (.s 129)
 (.seq
 (.reg [iq 2 (.mv (.c (.int .i64 (6))))])
 .ret)
 .skip))
 (.seqj [1, 4, 5, 7, 8]
 (.seq
 (.reg [iq 130 (.faddr 1 (.s 8)),
 iq 131 (.load1 (.s 130)),
 iq 132 (.lenL (.s 131)),
 iq 133 (.bin .gtr (.s 132) (.c (.int .i64 (4))))])
 (.cond (.s 133)
 (.seq
 (.reg [iq 2 (.mv (.c (.int .i64 (18))))])
 .ret)
 .skip))
 (.seqj [1, 4, 5, 7, 8]
 (.seq
 (.reg [iq 9 (.mv (.c (.int .i64 (0))))])
 (.block 6
 (.loop [1, 4, 5, 7, 8, 9]
 (.seqj [1, 4, 7, 8, 9]
 (.seq
 (.reg [iq 134 (.mv (.s 9)),
 iq 135 (.faddr 1 (.s 8)),
 iq 136 (.load1 (.s 135)),
 iq 137 (.lenL (.s 136)),
 iq 138 (.bin .lss (.s 134) (.s 137)),
 iq 139 (.mv (.s 138)),
 ig 140 139 true (.mv (.s 5)),
 ig 141 139 true (.eq (.one .i) false (.s 140) (.c (.int .i64 (0)))),
 iq 142 (.pick (.s 139) (.s 141) (.c (.bool false)))])
 (.cond (.s 142)
 .skip
 (.exit 6)))
 (.seqj [1, 4, 5, 7, 8, 9]
 (.block 7
 (.reg [iq 145 (.mv (.s 4)),
 iq 146 (.faddr 1 (.s 8)),
 iq 147 (.load1 (.s 146)),
 iq 148 (.mv (.s 9)),
 iq 149 (.iaddrS 4 (.s 147) (.s 148)),
 iq 150 (.loadn 4 (.s 149)),
 iq 151 (.call 26 [(.s 145), (.s 150), (.c (.int .i64 (1)))]),
 iq 5 (.mv (.s 151))]))
 (.reg [iq 143 (.mv (.s 9)),
 iq 144 (.bin .add (.s 143) (.c (.int .i64 (1)))),
 iq 9 (.mv (.s 144))]))))))
 (.seqj [1, 4, 5, 7]
 (.seq
 (.reg [iq 152 (.mv (.s 5)),
 iq 153 (.eq (.one .i) false (.s 152) (.c (.int .i64 (0))))])
 (.cond (.s 153)
 (.reg [iq 154 (.mv (.s 4)),
 iq 155 (.faddr 2 (.s 8)),
 iq 156 (.loadn 4 (.s 155)),
 iq 157 (.call 26 [(.s 154), (.s 156), (.c (.int .i64 (1)))]),
 iq 5 (.mv (.s 157))])
 .skip))
 (.seq
 (.reg [iq 158 (.mv (.s 5)),
 iq 159 (.eq (.one .i) true (.s 158) (.c (.int .i64 (0))))])
 (.cond (.s 159)
 (.seq
 (.reg [iq 160 (.mv (.s 5)),
 iq 2 (.mv (.s 160))])
 .ret)
 .skip)))))))))
 (.reg [iq 100 (.mv (.s 7)),
 iq 101 (.bin .add (.s 100) (.c (.int .i64 (1)))),
 iq 7 (.mv (.s 101))]))))))
 (.seqj [1]
 (.seq
 (.drw [iq 161 (.loadn 6 (.s 1)),
 iq 162 (.call 28 [(.s 161)]),
 iq 163 (.lenL (.s 162)),
 iq 164 (.faddr 4 (.s 1)),
 iq 165 (.load1 (.s 164)),
 iq 166 (.lenL (.s 165)),
 iq 167 (.eq (.one .i) true (.s 163) (.s 166))] [])
 (.cond (.s 167)
 (.seq
 (.reg [iq 2 (.mv (.c (.int .i64 (14))))])
 .ret)
 .skip))
 (.seq
 (.reg [iq 168 (.loadn 6 (.s 1)),
 iq 169 (.call 29 [(.s 168)]),
 iq 10 (.mv (.s 169))])
 (.seqj []
 (.seq
 (.reg [iq 11 (.mv (.c (.int .i64 (0))))])
 (.block 8
 (.loop [1, 10, 11]
 (.seqj [1, 10, 11]
 (.seq
 (.reg [iq 170 (.mv (.s 11)),
 iq 171 (.mv (.s 10)),
 iq 172 (.lenL (.s 171)),
 iq 173 (.bin .lss (.s 170) (.s 172))])
 (.cond (.s 173)
 .skip
 (.exit 8)))
 (.seqj [1, 10, 11]
 (.block 9
 (.seq
 (.drw [iq 176 (.loadn 6 (.s 1)),
 iq 177 (.mv (.s 10)),
 iq 178 (.mv (.s 11)),
 iq 179 (.iaddrS 4 (.s 177) (.s 178)),
 iq 180 (.loadn 4 (.s 179)),
 ⟨(some 181), (.call 30 [(.s 176), (.s 180)]), none, (some [])⟩] [])
 (.cond (.s 181)
 (.seq
 (.reg [iq 2 (.mv (.c (.int .i64 (17))))])
 .ret)
 .skip)))
 (.reg [iq 174 (.mv (.s 11)),
 iq 175 (.bin .add (.s 174) (.c (.int .i64 (1)))),
 iq 11 (.mv (.s 175))]))))))
 (.seq
 (.reg [iq 2 (.mv (.c (.int .i64 (0))))])
 .ret))))))))))))) }
theorem cf11_ok : compFn Try.prog Try.f11 [[1], [1], [1, 3], [1, 3], [1, 3], [1, 3], [1, 4, 5], [1, 4, 5, 6], [1, 4, 6], [1, 4, 5, 6], [1, 4, 5], [1, 4, 5], [1], [1, 4, 5, 7], [1, 4, 5, 7], [1, 4, 5, 7], [1, 4, 5, 7, 8], [1, 4, 5, 7, 8], [1, 4, 5, 7, 8], [1, 4, 5, 7, 8], [1, 4, 5, 7, 8, 9], [1, 4, 7, 8, 9], [1, 4, 5, 7, 8, 9], [1, 4, 5, 7], [1], [], [1, 10, 11], [1, 10, 11], [1, 10, 11]] = some cf_sprueref4_Check := by kernel_rfl
/- sprue/sprueref1.Ident -/
def cf_sprueref1_Ident : Eva.Fn := { ntmps := 36, res := [(.s 2)], body :=
 (.seq
 (.reg [iq 2 (.mv (.c (.bool false)))])
 (.seqj [0]
 (.seq
 (.reg [iq 4 (.mv (.s 0)),
 iq 5 (.lenS (.s 4)),
 iq 6 (.eq (.one .i) false (.s 5) (.c (.int .i64 (0)))),
 iq 7 (.mv (.s 6)),
 ig 8 7 false (.mv (.s 0)),
 ig 9 7 false (.lenS (.s 8)),
 ig 10 7 false (.bin .gtr (.s 9) (.c (.int .i64 (16)))),
 iq 11 (.pick (.s 7) (.c (.bool true)) (.s 10)),
 iq 12 (.mv (.s 11)),
 ig 13 12 false (.mv (.s 0)),
 ig 14 12 false (.idxS (.s 13) (.c (.int .i64 (0)))),
 ig 15 12 false (.call 45 [(.s 14)]),
 ig 16 12 false (.not (.s 15)),
 iq 17 (.pick (.s 12) (.c (.bool true)) (.s 16))])
 (.cond (.s 17)
 (.seq
 (.reg [iq 2 (.mv (.c (.bool false)))])
 .ret)
 .skip))
 (.seqj []
 (.seq
 (.reg [iq 3 (.mv (.c (.int .i64 (0))))])
 (.block 0
 (.loop [0, 3]
 (.seqj [0, 3]
 (.seq
 (.reg [iq 18 (.mv (.s 3)),
 iq 19 (.mv (.s 0)),
 iq 20 (.lenS (.s 19)),
 iq 21 (.bin .lss (.s 18) (.s 20))])
 (.cond (.s 21)
 .skip
 (.exit 0)))
 (.seqj [0, 3]
 (.block 1
 (.seq
 (.reg [iq 24 (.mv (.s 0)),
 iq 25 (.mv (.s 3)),
 iq 26 (.idxS (.s 24) (.s 25)),
 iq 27 (.call 45 [(.s 26)]),
 iq 28 (.not (.s 27)),
 iq 29 (.mv (.s 28)),
 ig 30 29 true (.mv (.s 0)),
 ig 31 29 true (.mv (.s 3)),
 ig 32 29 true (.idxS (.s 30) (.s 31)),
 ig 33 29 true (.call 46 [(.s 32)]),
 ig 34 29 true (.not (.s 33)),
 iq 35 (.pick (.s 29) (.s 34) (.c (.bool false)))])
 (.cond (.s 35)
 (.seq
 (.reg [iq 2 (.mv (.c (.bool false)))])
 .ret)
 .skip)))
 (.reg [iq 22 (.mv (.s 3)),
 iq 23 (.bin .add (.s 22) (.c (.int .i64 (1)))),
 iq 3 (.mv (.s 23))]))))))
 (.seq
 (.reg [iq 2 (.mv (.c (.bool true)))])
 .ret)))) }
theorem cf24_ok : compFn Try.prog Try.f24 [[0], [], [0, 3], [0, 3], [0, 3]] = some cf_sprueref1_Ident := by kernel_rfl
/- sprue/sprueref1.letter -/
def cf_sprueref1_letter : Eva.Fn := { ntmps := 21, res := [(.s 2)], body :=
 (.seq
 (.reg [iq 2 (.mv (.c (.bool false)))])
 (.seq
 (.reg [iq 3 (.mv (.s 0)),
 iq 4 (.bin .geq (.s 3) (.c (.int .u8 (97)))),
 iq 5 (.mv (.s 4)),
 ig 6 5 true (.mv (.s 0)),
 ig 7 5 true (.bin .leq (.s 6) (.c (.int .u8 (122)))),
 iq 8 (.pick (.s 5) (.s 7) (.c (.bool false))),
 iq 9 (.mv (.s 8)),
 ig 10 9 false (.mv (.s 0)),
 ig 11 9 false (.bin .geq (.s 10) (.c (.int .u8 (65)))),
 ig 12 9 false (.mv (.s 11)),
 ig 13 12 true (.mv (.s 0)),
 ig 14 12 true (.bin .leq (.s 13) (.c (.int .u8 (90)))),
 ig 15 9 false (.pick (.s 12) (.s 14) (.c (.bool false))),
 iq 16 (.pick (.s 9) (.c (.bool true)) (.s 15)),
 iq 17 (.mv (.s 16)),
 ig 18 17 false (.mv (.s 0)),
 ig 19 17 false (.eq (.one .i) false (.s 18) (.c (.int .u8 (95)))),
 iq 20 (.pick (.s 17) (.c (.bool true)) (.s 19)),
 iq 2 (.mv (.s 20))])
 .ret)) }
theorem cf45_ok : compFn Try.prog Try.f45 [] = some cf_sprueref1_letter := by kernel_rfl
/- sprue/sprueref1.digit -/
def cf_sprueref1_digit : Eva.Fn := { ntmps := 9, res := [(.s 2)], body :=
 (.seq
 (.reg [iq 2 (.mv (.c (.bool false)))])
 (.seq
 (.reg [iq 3 (.mv (.s 0)),
 iq 4 (.bin .geq (.s 3) (.c (.int .u8 (48)))),
 iq 5 (.mv (.s 4)),
 ig 6 5 true (.mv (.s 0)),
 ig 7 5 true (.bin .leq (.s 6) (.c (.int .u8 (57)))),
 iq 8 (.pick (.s 5) (.s 7) (.c (.bool false))),
 iq 2 (.mv (.s 8))])
 .ret)) }
theorem cf46_ok : compFn Try.prog Try.f46 [] = some cf_sprueref1_digit := by kernel_rfl
/- sprue/sprueref4.word -/
def cf_sprueref4_word : Eva.Fn := { ntmps := 29, res := [(.s 2)], body :=
 (.seq
 (.reg [iq 2 (.mv (.c (.bool false)))])
 (.seq
 (.reg [iq 3 (.mv (.s 0)),
 iq 4 (.eq (.one .s) false (.s 3) (.c (ofL [66, 111, 111, 108]))),
 iq 5 (.mv (.s 4)),
 ig 6 5 false (.mv (.s 0)),
 ig 7 5 false (.eq (.one .s) false (.s 6) (.c (ofL [73, 110, 116]))),
 iq 8 (.pick (.s 5) (.c (.bool true)) (.s 7)),
 iq 9 (.mv (.s 8)),
 ig 10 9 false (.mv (.s 0)),
 ig 11 9 false (.eq (.one .s) false (.s 10) (.c (ofL [84, 101, 120, 116]))),
 iq 12 (.pick (.s 9) (.c (.bool true)) (.s 11)),
 iq 13 (.mv (.s 12)),
 ig 14 13 false (.mv (.s 0)),
 ig 15 13 false (.eq (.one .s) false (.s 14) (.c (ofL [76, 105, 115, 116]))),
 iq 16 (.pick (.s 13) (.c (.bool true)) (.s 15)),
 iq 17 (.mv (.s 16)),
 ig 18 17 false (.mv (.s 0)),
 ig 19 17 false (.eq (.one .s) false (.s 18) (.c (ofL [77, 97, 112]))),
 iq 20 (.pick (.s 17) (.c (.bool true)) (.s 19)),
 iq 21 (.mv (.s 20)),
 ig 22 21 false (.mv (.s 0)),
 ig 23 21 false (.eq (.one .s) false (.s 22) (.c (ofL [79, 112, 116]))),
 iq 24 (.pick (.s 21) (.c (.bool true)) (.s 23)),
 iq 25 (.mv (.s 24)),
 ig 26 25 false (.mv (.s 0)),
 ig 27 25 false (.eq (.one .s) false (.s 26) (.c (ofL [85, 110, 105, 111, 110]))),
 iq 28 (.pick (.s 25) (.c (.bool true)) (.s 27)),
 iq 2 (.mv (.s 28))])
 .ret)) }
theorem cf25_ok : compFn Try.prog Try.f25 [] = some cf_sprueref4_word := by kernel_rfl
/- (*sprue/sprueref4.walk).may -/
def cf_sprueref4_walk_may : Eva.Fn := { ntmps := 50, res := [(.s 6)], body :=
 (.seq
 (.reg [iq 4 (.box (.s 1)),
 iq 6 (.mv (.c (.int .i64 (0))))])
 (.seq
 (.reg [iq 9 (.mv (.s 0)),
 iq 10 (.nilck (.s 9)),
 iq 11 (.faddr 6 (.s 10)),
 iq 12 (.load1 (.s 11)),
 iq 13 (.bin .add (.s 12) (.c (.int .i64 (1)))),
 iq 14 (.nilck (.s 9)),
 iq 15 (.faddr 6 (.s 14)),
 iz (.store 1 (.s 15) (.s 13))])
 (.seqj [0, 2, 4]
 (.seq
 (.reg [iq 16 (.mv (.s 0)),
 iq 17 (.nilck (.s 16)),
 iq 18 (.faddr 6 (.s 17)),
 iq 19 (.load1 (.s 18)),
 iq 20 (.bin .gtr (.s 19) (.c (.int .i64 (400))))])
 (.cond (.s 20)
 (.seq
 (.reg [iq 6 (.mv (.c (.int .i64 (3))))])
 .ret)
 .skip))
 (.seqj [0, 2, 4]
 (.seq
 (.reg [iq 21 (.mv (.s 2)),
 iq 22 (.bin .gtr (.s 21) (.c (.int .i64 (12))))])
 (.cond (.s 22)
 (.seq
 (.reg [iq 6 (.mv (.c (.int .i64 (13))))])
 .ret)
 .skip))
 (.seq
 (.drw [iq 23 (.mv (.s 0)),
 iq 24 (.nilck (.s 23)),
 iq 25 (.faddr 0 (.s 24)),
 iq 26 (.loadn 6 (.s 25)),
 iq 27 (.loadn 4 (.s 4)),
 ⟨(some 28), (.call 47 [(.s 26), (.s 27)]), none, (some [])⟩,
 iq 7 (.mv (.s 28))] [])
 (.seqj [7]
 (.seq
 (.reg [iq 8 (.mv (.c (.int .i64 (0))))])
 (.block 0
 (.loop [0, 2, 4, 7, 8]
 (.seqj [0, 2, 4, 8]
 (.seq
 (.reg [iq 29 (.mv (.s 8)),
 iq 30 (.faddr 3 (.s 4)),
 iq 31 (.load1 (.s 30)),
 iq 32 (.lenL (.s 31)),
 iq 33 (.bin .lss (.s 29) (.s 32)),
 iq 34 (.mv (.s 33)),
 ig 35 34 true (.mv (.s 7)),
 ig 36 34 true (.eq (.one .i) false (.s 35) (.c (.int .i64 (0)))),
 iq 37 (.pick (.s 34) (.s 36) (.c (.bool false)))])
 (.cond (.s 37)
 .skip
 (.exit 0)))
 (.seqj [0, 2, 4, 7, 8]
 (.block 1
 (.reg [iq 40 (.mv (.s 0)),
 iq 41 (.faddr 3 (.s 4)),
 iq 42 (.load1 (.s 41)),
 iq 43 (.mv (.s 8)),
 iq 44 (.iaddrS 4 (.s 42) (.s 43)),
 iq 45 (.loadn 4 (.s 44)),
 iq 46 (.mv (.s 2)),
 iq 47 (.bin .add (.s 46) (.c (.int .i64 (1)))),
 iq 48 (.call 26 [(.s 40), (.s 45), (.s 47)]),
 iq 7 (.mv (.s 48))]))
 (.reg [iq 38 (.mv (.s 8)),
 iq 39 (.bin .add (.s 38) (.c (.int .i64 (1)))),
 iq 8 (.mv (.s 39))]))))))
 (.seq
 (.reg [iq 49 (.mv (.s 7)),
 iq 6 (.mv (.s 49))])
 .ret))))))) }
theorem cf26_ok : compFn Try.prog Try.f26 [[0, 2, 4], [0, 2, 4], [7], [0, 2, 4, 7, 8], [0, 2, 4, 8], [0, 2, 4, 7, 8]] = some cf_sprueref4_walk_may := by kernel_rfl
/- sprue/sprueref4.own -/
def cf_sprueref4_own : Eva.Fn := { ntmps := 118, res := [(.s 4)], body :=
 (.seq
 (.reg [iq 2 (.box (.s 0)),
 iq 3 (.box (.s 1)),
 iq 4 (.mv (.c (.int .i64 (0))))])
 (.seqj [2, 3]
 (.seq
 (.reg [iq 10 (.faddr 0 (.s 3)),
 iq 11 (.load1 (.s 10)),
 iq 12 (.bin .lss (.s 11) (.c (.int .i64 (1)))),
 iq 13 (.mv (.s 12)),
 ig 14 13 false (.faddr 0 (.s 3)),
 ig 15 13 false (.load1 (.s 14)),
 ig 16 13 false (.bin .gtr (.s 15) (.c (.int .i64 (9)))),
 iq 17 (.pick (.s 13) (.c (.bool true)) (.s 16))])
 (.cond (.s 17)
 (.seq
 (.reg [iq 4 (.mv (.c (.int .i64 (1))))])
 .ret)
 .skip))
 (.seq
 (.reg [iq 5 (.mv (.c (.int .i64 (0))))])
 (.seqj [2, 3, 5]
 (.seq
 (.reg [iq 18 (.faddr 0 (.s 3)),
 iq 19 (.load1 (.s 18))])
 (.block 0
 (.seqj [2, 3, 5, 19, 20]
 (.seq
 (.reg [iq 21 (.eq (.one .i) false (.s 19) (.c (.int .i64 (4)))),
 iq 20 (.mv (.s 21))])
 (.cond (.s 20)
 .skip
 (.seq
 (.reg [iq 22 (.eq (.one .i) false (.s 19) (.c (.int .i64 (5)))),
 iq 20 (.mv (.s 22))])
 (.cond (.s 20)
 .skip
 (.reg [iq 23 (.eq (.one .i) false (.s 19) (.c (.int .i64 (6)))),
 iq 20 (.mv (.s 23))])))))
 (.cond (.s 20)
 (.reg [iq 5 (.mv (.c (.int .i64 (1))))])
 (.seqj [2, 3, 5, 24]
 (.seq
 (.reg [iq 25 (.eq (.one .i) false (.s 19) (.c (.int .i64 (7)))),
 iq 24 (.mv (.s 25))])
 (.cond (.s 24)
 .skip
 (.reg [iq 26 (.eq (.one .i) false (.s 19) (.c (.int .i64 (8)))),
 iq 24 (.mv (.s 26))])))
 (.cond (.s 24)
 (.reg [iq 27 (.faddr 2 (.s 3)),
 iq 28 (.load1 (.s 27)),
 iq 29 (.lenL (.s 28)),
 iq 5 (.mv (.s 29))])
 .skip))))))
 (.seq
 (.reg [iq 30 (.faddr 0 (.s 3)),
 iq 31 (.load1 (.s 30)),
 iq 32 (.eq (.one .i) false (.s 31) (.c (.int .i64 (7)))),
 iq 33 (.mv (.s 32)),
 ig 34 33 false (.faddr 0 (.s 3)),
 ig 35 33 false (.load1 (.s 34)),
 ig 36 33 false (.eq (.one .i) false (.s 35) (.c (.int .i64 (8)))),
 iq 37 (.pick (.s 33) (.c (.bool true)) (.s 36)),
 iq 6 (.mv (.s 37))])
 (.seqj [2, 3]
 (.seq
 (.reg [iq 38 (.faddr 3 (.s 3)),
 iq 39 (.load1 (.s 38)),
 iq 40 (.lenL (.s 39)),
 iq 41 (.mv (.s 5)),
 iq 42 (.eq (.one .i) true (.s 40) (.s 41)),
 iq 43 (.mv (.s 42)),
 ig 44 43 false (.faddr 0 (.s 3)),
 ig 45 43 false (.load1 (.s 44)),
 ig 46 43 false (.eq (.one .i) true (.s 45) (.c (.int .i64 (9)))),
 ig 47 43 false (.mv (.s 46)),
 ig 48 47 true (.faddr 1 (.s 3)),
 ig 49 47 true (.load1 (.s 48)),
 ig 50 47 true (.eq (.one .s) true (.s 49) (.c (ofL []))),
 ig 51 43 false (.pick (.s 47) (.s 50) (.c (.bool false))),
 iq 52 (.pick (.s 43) (.c (.bool true)) (.s 51)),
 iq 53 (.mv (.s 52)),
 ig 54 53 false (.mv (.s 6)),
 ig 55 53 false (.not (.s 54)),
 ig 56 53 false (.mv (.s 55)),
 ig 57 56 true (.faddr 2 (.s 3)),
 ig 58 56 true (.load1 (.s 57)),
 ig 59 56 true (.lenL (.s 58)),
 ig 60 56 true (.eq (.one .i) true (.s 59) (.c (.int .i64 (0)))),
 ig 61 53 false (.pick (.s 56) (.s 60) (.c (.bool false))),
 iq 62 (.pick (.s 53) (.c (.bool true)) (.s 61))])
 (.cond (.s 62)
 (.seq
 (.reg [iq 4 (.mv (.c (.int .i64 (12))))])
 .ret)
 .skip))
 (.seqj [3]
 (.seq
 (.reg [iq 63 (.faddr 0 (.s 3)),
 iq 64 (.load1 (.s 63)),
 iq 65 (.eq (.one .i) false (.s 64) (.c (.int .i64 (9))))])
 (.cond (.s 65)
 (.seq
 (.reg [iq 67 (.loadn 6 (.s 2)),
 iq 68 (.faddr 1 (.s 3)),
 iq 69 (.load1 (.s 68)),
 iq 70 (.call 55 [(.s 67), (.s 69)]),
 iq 66 (.mv (.s 70)),
 iq 71 (.ext 0 (.s 66)),
 iq 72 (.ext 1 (.s 66)),
 iq 7 (.alloc [(.int .i64 (0)), (ofL []), .snil, .snil]),
 iz (.store 4 (.s 7) (.s 71)),
 iq 8 (.mv (.s 72))])
 (.seq
 (.reg [iq 73 (.mv (.s 8)),
 iq 74 (.not (.s 73))])
 (.cond (.s 74)
 (.seq
 (.reg [iq 4 (.mv (.c (.int .i64 (15))))])
 .ret)
 .skip)))
 .skip))
 (.seqj [3]
 (.seq
 (.reg [iq 75 (.faddr 2 (.s 3)),
 iq 76 (.load1 (.s 75)),
 iq 77 (.lenL (.s 76)),
 iq 78 (.bin .gtr (.s 77) (.c (.int .i64 (8))))])
 (.cond (.s 78)
 (.seq
 (.reg [iq 4 (.mv (.c (.int .i64 (3))))])
 .ret)
 .skip))
 (.seqj [3]
 (.seq
 (.reg [iq 9 (.mv (.c (.int .i64 (0))))])
 (.block 1
 (.loop [3, 9]
 (.seqj [3, 9]
 (.seq
 (.reg [iq 79 (.mv (.s 9)),
 iq 80 (.faddr 2 (.s 3)),
 iq 81 (.load1 (.s 80)),
 iq 82 (.lenL (.s 81)),
 iq 83 (.bin .lss (.s 79) (.s 82))])
 (.cond (.s 83)
 .skip
 (.exit 1)))
 (.seqj [3, 9]
 (.block 2
 (.seqj [3, 9]
 (.seq
 (.reg [iq 86 (.faddr 2 (.s 3)),
 iq 87 (.load1 (.s 86)),
 iq 88 (.mv (.s 9)),
 iq 89 (.iaddrS 1 (.s 87) (.s 88)),
 iq 90 (.load1 (.s 89)),
 iq 91 (.call 24 [(.s 90)]),
 iq 92 (.not (.s 91))])
 (.cond (.s 92)
 (.seq
 (.reg [iq 4 (.mv (.c (.int .i64 (15))))])
 .ret)
 .skip))
 (.seq
 (.drw [iq 93 (.mv (.s 9)),
 iq 94 (.bin .gtr (.s 93) (.c (.int .i64 (0)))),
 iq 95 (.mv (.s 94)),
 ig 96 95 true (.faddr 2 (.s 3)),
 ig 97 95 true (.load1 (.s 96)),
 ig 98 95 true (.mv (.s 9)),
 ig 99 95 true (.iaddrS 1 (.s 97) (.s 98)),
 ig 100 95 true (.load1 (.s 99)),
 ig 101 95 true (.faddr 2 (.s 3)),
 ig 102 95 true (.load1 (.s 101)),
 ig 103 95 true (.mv (.s 9)),
 ig 104 95 true (.bin .sub (.s 103) (.c (.int .i64 (1)))),
 ig 105 95 true (.iaddrS 1 (.s 102) (.s 104)),
 ig 106 95 true (.load1 (.s 105)),
 ig 107 95 true (.bin .leq (.s 100) (.s 106)),
 iq 108 (.pick (.s 95) (.s 107) (.c (.bool false)))] [])
 (.cond (.s 108)
 (.seq
 (.reg [iq 4 (.mv (.c (.int .i64 (6))))])
 .ret)
 .skip))))
 (.reg [iq 84 (.mv (.s 9)),
 iq 85 (.bin .add (.s 84) (.c (.int .i64 (1)))),
 iq 9 (.mv (.s 85))]))))))
 (.seqj []
 (.seq
 (.reg [iq 109 (.faddr 0 (.s 3)),
 iq 110 (.load1 (.s 109)),
 iq 111 (.eq (.one .i) false (.s 110) (.c (.int .i64 (8)))),
 iq 112 (.mv (.s 111)),
 ig 113 112 true (.faddr 2 (.s 3)),
 ig 114 112 true (.load1 (.s 113)),
 ig 115 112 true (.lenL (.s 114)),
 ig 116 112 true (.eq (.one .i) false (.s 115) (.c (.int .i64 (0)))),
 iq 117 (.pick (.s 112) (.s 116) (.c (.bool false)))])
 (.cond (.s 117)
 (.seq
 (.reg [iq 4 (.mv (.c (.int .i64 (12))))])
 .ret)
 .skip))
 (.seq
 (.reg [iq 4 (.mv (.c (.int .i64 (0))))])
 .ret))))))))))) }
theorem cf47_ok : compFn Try.prog Try.f47 [[2, 3], [2, 3, 5], [2, 3, 5, 19, 20], [2, 3, 5, 24], [2, 3], [3], [3], [3], [3, 9], [3, 9], [3, 9], [3, 9], []] = some cf_sprueref4_own := by kernel_rfl
/- sprue/sprueref4.Def -/
def cf_sprueref4_Def : Eva.Fn := { ntmps := 29, res := [(.cn 4 4), (.s 5)], body :=
 (.seq
 (.reg [iq 2 (.box (.s 0)),
 iq 4 (.alloc [(.int .i64 (0)), (ofL []), .snil, .snil]),
 iq 5 (.mv (.c (.bool false)))])
 (.seqj [4]
 (.seq
 (.reg [iq 6 (.mv (.c (.int .i64 (0))))])
 (.block 0
 (.loop [1, 2, 4, 6]
 (.seqj [1, 2, 4, 6]
 (.seq
 (.reg [iq 7 (.mv (.s 6)),
 iq 8 (.faddr 4 (.s 2)),
 iq 9 (.load1 (.s 8)),
 iq 10 (.lenL (.s 9)),
 iq 11 (.bin .lss (.s 7) (.s 10))])
 (.cond (.s 11)
 .skip
 (.exit 0)))
 (.seqj [1, 2, 4, 6]
 (.block 1
 (.seq
 (.reg [iq 14 (.faddr 4 (.s 2)),
 iq 15 (.load1 (.s 14)),
 iq 16 (.mv (.s 6)),
 iq 17 (.iaddrS 5 (.s 15) (.s 16)),
 iq 18 (.faddr 0 (.s 17)),
 iq 19 (.load1 (.s 18)),
 iq 20 (.mv (.s 1)),
 iq 21 (.eq (.one .s) false (.s 19) (.s 20))])
 (.cond (.s 21)
 (.seq
 (.reg [iq 22 (.faddr 4 (.s 2)),
 iq 23 (.load1 (.s 22)),
 iq 24 (.mv (.s 6)),
 iq 25 (.iaddrS 5 (.s 23) (.s 24)),
 iq 26 (.faddr 1 (.s 25)),
 iq 27 (.loadn 4 (.s 26)),
 iz (.store 4 (.s 4) (.s 27)),
 iq 5 (.mv (.c (.bool true)))])
 .ret)
 .skip)))
 (.reg [iq 12 (.mv (.s 6)),
 iq 13 (.bin .add (.s 12) (.c (.int .i64 (1)))),
 iq 6 (.mv (.s 13))]))))))
 (.seq
 (.reg [iq 28 (.build [(.int .i64 (0)), (ofL []), .snil, .snil] []),
 iz (.store 4 (.s 4) (.s 28)),
 iq 5 (.mv (.c (.bool false)))])
 .ret))) }
theorem cf55_ok : compFn Try.prog Try.f55 [[4], [1, 2, 4, 6], [1, 2, 4, 6], [1, 2, 4, 6]] = some cf_sprueref4_Def := by kernel_rfl
/- sprue/sprueref4.Builtin -/
def cf_sprueref4_Builtin : Eva.Fn := { ntmps := 28, res := [(.s 2)], body :=
 (.seq
 (.reg [iq 2 (.mv (.c (.bool false)))])
 (.seqj []
 (.seq
 (.reg [iq 3 (.mv (.s 0))])
 (.block 0
 (.seqj [4]
 (.seq
 (.reg [iq 5 (.eq (.one .s) false (.s 3) (.c (ofL [108, 101, 110]))),
 iq 4 (.mv (.s 5))])
 (.cond (.s 4)
 .skip
 (.seq
 (.reg [iq 6 (.eq (.one .s) false (.s 3) (.c (ofL [110, 111, 116]))),
 iq 4 (.mv (.s 6))])
 (.cond (.s 4)
 .skip
 (.seq
 (.reg [iq 7 (.eq (.one .s) false (.s 3) (.c (ofL [97, 110, 100]))),
 iq 4 (.mv (.s 7))])
 (.cond (.s 4)
 .skip
 (.seq
 (.reg [iq 8 (.eq (.one .s) false (.s 3) (.c (ofL [111, 114]))),
 iq 4 (.mv (.s 8))])
 (.cond (.s 4)
 .skip
 (.seq
 (.reg [iq 9 (.eq (.one .s) false (.s 3) (.c (ofL [101, 113]))),
 iq 4 (.mv (.s 9))])
 (.cond (.s 4)
 .skip
 (.seq
 (.reg [iq 10 (.eq (.one .s) false (.s 3) (.c (ofL [108, 116]))),
 iq 4 (.mv (.s 10))])
 (.cond (.s 4)
 .skip
 (.seq
 (.reg [iq 11 (.eq (.one .s) false (.s 3) (.c (ofL [97, 100, 100]))),
 iq 4 (.mv (.s 11))])
 (.cond (.s 4)
 .skip
 (.seq
 (.reg [iq 12 (.eq (.one .s) false (.s 3) (.c (ofL [115, 117, 98]))),
 iq 4 (.mv (.s 12))])
 (.cond (.s 4)
 .skip
 (.seq
 (.reg [iq 13 (.eq (.one .s) false (.s 3) (.c (ofL [109, 117, 108]))),
 iq 4 (.mv (.s 13))])
 (.cond (.s 4)
 .skip
 (.seq
 (.reg [iq 14 (.eq (.one .s) false (.s 3) (.c (ofL [115, 104, 108]))),
 iq 4 (.mv (.s 14))])
 (.cond (.s 4)
 .skip
 (.seq
 (.reg [iq 15 (.eq (.one .s) false (.s 3) (.c (ofL [115, 104, 114]))),
 iq 4 (.mv (.s 15))])
 (.cond (.s 4)
 .skip
 (.seq
 (.reg [iq 16 (.eq (.one .s) false (.s 3) (.c (ofL [105, 56]))),
 iq 4 (.mv (.s 16))])
 (.cond (.s 4)
 .skip
 (.seq
 (.reg [iq 17 (.eq (.one .s) false (.s 3) (.c (ofL [105, 49, 54]))),
 iq 4 (.mv (.s 17))])
 (.cond (.s 4)
 .skip
 (.seq
 (.reg [iq 18 (.eq (.one .s) false (.s 3) (.c (ofL [105, 51, 50]))),
 iq 4 (.mv (.s 18))])
 (.cond (.s 4)
 .skip
 (.seq
 (.reg [iq 19 (.eq (.one .s) false (.s 3) (.c (ofL [117, 56]))),
 iq 4 (.mv (.s 19))])
 (.cond (.s 4)
 .skip
 (.seq
 (.reg [iq 20 (.eq (.one .s) false (.s 3) (.c (ofL [117, 49, 54]))),
 iq 4 (.mv (.s 20))])
 (.cond (.s 4)
 .skip
 (.seq
 (.reg [iq 21 (.eq (.one .s) false (.s 3) (.c (ofL [117, 51, 50]))),
 iq 4 (.mv (.s 21))])
 (.cond (.s 4)
 .skip
 (.seq
 (.reg [iq 22 (.eq (.one .s) false (.s 3) (.c (ofL [99, 97, 116]))),
 iq 4 (.mv (.s 22))])
 (.cond (.s 4)
 .skip
 (.seq
 (.reg [iq 23 (.eq (.one .s) false (.s 3) (.c (ofL [116, 101, 120, 116]))),
 iq 4 (.mv (.s 23))])
 (.cond (.s 4)
 .skip
 (.seq
 (.reg [iq 24 (.eq (.one .s) false (.s 3) (.c (ofL [97, 116]))),
 iq 4 (.mv (.s 24))])
 (.cond (.s 4)
 .skip
 (.seq
 (.reg [iq 25 (.eq (.one .s) false (.s 3) (.c (ofL [103, 101, 116]))),
 iq 4 (.mv (.s 25))])
 (.cond (.s 4)
 .skip
 (.seq
 (.reg [iq 26 (.eq (.one .s) false (.s 3) (.c (ofL [104, 97, 115]))),
 iq 4 (.mv (.s 26))])
 (.cond (.s 4)
 .skip
 (.reg [iq 27 (.eq (.one .s) false (.s 3) (.c (ofL [111, 114, 101, 108, 115, 101]))),
 iq 4 (.mv (.s 27))])))))))))))))))))))))))))))))))))))))))))))))
 (.cond (.s 4)
 (.seq
 (.reg [iq 2 (.mv (.c (.bool true)))])
 .ret)
 .skip))))
 (.seq
 (.reg [iq 2 (.mv (.c (.bool false)))])
 .ret))) }
theorem cf27_ok : compFn Try.prog Try.f27 [[], [4]] = some cf_sprueref4_Builtin := by kernel_rfl
/- sprue/sprueref4.finite -/
def cf_sprueref4_finite : Eva.Fn := { ntmps := 40, res := [(.s 2)], body :=
 (.seq
 (.reg [iq 1 (.box (.s 0)),
 iq 2 (.mv (.c .snil))])
 (.seq
 (.reg [iq 3 (.mv (.c .snil))])
 (.seqj [3]
 (.seq
 (.reg [iq 4 (.mv (.c (.int .i64 (0))))])
 (.block 0
 (.loop [1, 3, 4]
 (.seqj [1, 3, 4]
 (.seq
 (.reg [iq 7 (.mv (.s 4)),
 iq 8 (.faddr 4 (.s 1)),
 iq 9 (.load1 (.s 8)),
 iq 10 (.lenL (.s 9)),
 iq 11 (.bin .leq (.s 7) (.s 10))])
 (.cond (.s 11)
 .skip
 (.exit 0)))
 (.seqj [1, 3, 4]
 (.block 1
 (.seq
 (.reg [iq 5 (.mv (.c .snil))])
 (.seqj [1, 4, 5]
 (.seq
 (.reg [iq 6 (.mv (.c (.int .i64 (0))))])
 (.block 2
 (.loop [1, 3, 4, 5, 6]
 (.seqj [1, 3, 4, 5, 6]
 (.seq
 (.reg [iq 14 (.mv (.s 6)),
 iq 15 (.faddr 4 (.s 1)),
 iq 16 (.load1 (.s 15)),
 iq 17 (.lenL (.s 16)),
 iq 18 (.bin .lss (.s 14) (.s 17))])
 (.cond (.s 18)
 .skip
 (.exit 2)))
 (.seqj [1, 3, 4, 5, 6]
 (.block 3
 (.seq
 (.reg [iq 21 (.mv (.s 3)),
 iq 22 (.faddr 4 (.s 1)),
 iq 23 (.load1 (.s 22)),
 iq 24 (.mv (.s 6)),
 iq 25 (.iaddrS 5 (.s 23) (.s 24)),
 iq 26 (.faddr 1 (.s 25)),
 iq 27 (.loadn 4 (.s 26)),
 iq 28 (.call 32 [(.s 21), (.s 27)])])
 (.cond (.s 28)
 (.reg [iq 29 (.mv (.s 5)),
 iq 30 (.faddr 4 (.s 1)),
 iq 31 (.load1 (.s 30)),
 iq 32 (.mv (.s 6)),
 iq 33 (.iaddrS 5 (.s 31) (.s 32)),
 iq 34 (.faddr 0 (.s 33)),
 iq 35 (.load1 (.s 34)),
 iq 36 (.bsl 1 1 [(ofL [])] [(0, 1, (.s 35))]),
 iq 37 (.app 1 (.s 29) (.s 36)),
 iq 5 (.mv (.s 37))])
 .skip)))
 (.reg [iq 19 (.mv (.s 6)),
 iq 20 (.bin .add (.s 19) (.c (.int .i64 (1)))),
 iq 6 (.mv (.s 20))]))))))
 (.reg [iq 38 (.mv (.s 5)),
 iq 3 (.mv (.s 38))]))))
 (.reg [iq 12 (.mv (.s 4)),
 iq 13 (.bin .add (.s 12) (.c (.int .i64 (1)))),
 iq 4 (.mv (.s 13))]))))))
 (.seq
 (.reg [iq 39 (.mv (.s 3)),
 iq 2 (.mv (.s 39))])
 .ret)))) }
theorem cf28_ok : compFn Try.prog Try.f28 [[3], [1, 3, 4], [1, 3, 4], [1, 3, 4], [1, 4, 5], [1, 3, 4, 5, 6], [1, 3, 4, 5, 6], [1, 3, 4, 5, 6]] = some cf_sprueref4_finite := by kernel_rfl
/- sprue/sprueref4.ends -/
def cf_sprueref4_ends : Eva.Fn := { ntmps := 48, res := [(.s 4)], body :=
 (.seq
 (.reg [iq 3 (.box (.s 1)),
 iq 4 (.mv (.c (.bool false)))])
 (.seqj []
 (.seq
 (.reg [iq 7 (.faddr 0 (.s 3)),
 iq 8 (.load1 (.s 7))])
 (.block 0
 (.seq
 (.reg [iq 10 (.eq (.one .i) false (.s 8) (.c (.int .i64 (7)))),
 iq 9 (.mv (.s 10))])
 (.cond (.s 9)
 (.seqj []
 (.seq
 (.reg [iq 5 (.mv (.c (.int .i64 (0))))])
 (.block 1
 (.loop [0, 3, 5]
 (.seqj [0, 3, 5]
 (.seq
 (.reg [iq 11 (.mv (.s 5)),
 iq 12 (.faddr 3 (.s 3)),
 iq 13 (.load1 (.s 12)),
 iq 14 (.lenL (.s 13)),
 iq 15 (.bin .lss (.s 11) (.s 14))])
 (.cond (.s 15)
 .skip
 (.exit 1)))
 (.seqj [0, 3, 5]
 (.block 2
 (.seq
 (.reg [iq 18 (.mv (.s 0)),
 iq 19 (.faddr 3 (.s 3)),
 iq 20 (.load1 (.s 19)),
 iq 21 (.mv (.s 5)),
 iq 22 (.iaddrS 4 (.s 20) (.s 21)),
 iq 23 (.loadn 4 (.s 22)),
 iq 24 (.call 32 [(.s 18), (.s 23)]),
 iq 25 (.not (.s 24))])
 (.cond (.s 25)
 (.seq
 (.reg [iq 4 (.mv (.c (.bool false)))])
 .ret)
 .skip)))
 (.reg [iq 16 (.mv (.s 5)),
 iq 17 (.bin .add (.s 16) (.c (.int .i64 (1)))),
 iq 5 (.mv (.s 17))]))))))
 (.seq
 (.reg [iq 4 (.mv (.c (.bool true)))])
 .ret))
 (.seq
 (.reg [iq 27 (.eq (.one .i) false (.s 8) (.c (.int .i64 (8)))),
 iq 26 (.mv (.s 27))])
 (.cond (.s 26)
 (.seqj []
 (.seq
 (.reg [iq 6 (.mv (.c (.int .i64 (0))))])
 (.block 3
 (.loop [0, 3, 6]
 (.seqj [0, 3, 6]
 (.seq
 (.reg [iq 28 (.mv (.s 6)),
 iq 29 (.faddr 3 (.s 3)),
 iq 30 (.load1 (.s 29)),
 iq 31 (.lenL (.s 30)),
 iq 32 (.bin .lss (.s 28) (.s 31))])
 (.cond (.s 32)
 .skip
 (.exit 3)))
 (.seqj [0, 3, 6]
 (.block 4
 (.seq
 (.reg [iq 35 (.mv (.s 0)),
 iq 36 (.faddr 3 (.s 3)),
 iq 37 (.load1 (.s 36)),
 iq 38 (.mv (.s 6)),
 iq 39 (.iaddrS 4 (.s 37) (.s 38)),
 iq 40 (.loadn 4 (.s 39)),
 iq 41 (.call 32 [(.s 35), (.s 40)])])
 (.cond (.s 41)
 (.seq
 (.reg [iq 4 (.mv (.c (.bool true)))])
 .ret)
 .skip)))
 (.reg [iq 33 (.mv (.s 6)),
 iq 34 (.bin .add (.s 33) (.c (.int .i64 (1)))),
 iq 6 (.mv (.s 34))]))))))
 (.seq
 (.reg [iq 4 (.mv (.c (.bool false)))])
 .ret))
 (.seq
 (.reg [iq 43 (.eq (.one .i) false (.s 8) (.c (.int .i64 (9)))),
 iq 42 (.mv (.s 43))])
 (.cond (.s 42)
 (.seq
 (.reg [iq 44 (.mv (.s 0)),
 iq 45 (.faddr 1 (.s 3)),
 iq 46 (.load1 (.s 45)),
 iq 47 (.call 51 [(.s 44), (.s 46)]),
 iq 4 (.mv (.s 47))])
 .ret)
 .skip))))))))
 (.seq
 (.reg [iq 4 (.mv (.c (.bool true)))])
 .ret))) }
theorem cf32_ok : compFn Try.prog Try.f32 [[], [], [0, 3, 5], [0, 3, 5], [0, 3, 5], [], [0, 3, 6], [0, 3, 6], [0, 3, 6]] = some cf_sprueref4_ends := by kernel_rfl
/- sprue/sprueref4.in -/
def cf_sprueref4_in : Eva.Fn := { ntmps := 18, res := [(.s 4)], body :=
 (.seq
 (.reg [iq 4 (.mv (.c (.bool false)))])
 (.seqj []
 (.seq
 (.reg [iq 5 (.mv (.c (.int .i64 (0))))])
 (.block 0
 (.loop [0, 1, 5]
 (.seqj [0, 1, 5]
 (.seq
 (.reg [iq 6 (.mv (.s 5)),
 iq 7 (.mv (.s 0)),
 iq 8 (.lenL (.s 7)),
 iq 9 (.bin .lss (.s 6) (.s 8))])
 (.cond (.s 9)
 .skip
 (.exit 0)))
 (.seqj [0, 1, 5]
 (.block 1
 (.seq
 (.reg [iq 12 (.mv (.s 0)),
 iq 13 (.mv (.s 5)),
 iq 14 (.iaddrS 1 (.s 12) (.s 13)),
 iq 15 (.load1 (.s 14)),
 iq 16 (.mv (.s 1)),
 iq 17 (.eq (.one .s) false (.s 15) (.s 16))])
 (.cond (.s 17)
 (.seq
 (.reg [iq 4 (.mv (.c (.bool true)))])
 .ret)
 .skip)))
 (.reg [iq 10 (.mv (.s 5)),
 iq 11 (.bin .add (.s 10) (.c (.int .i64 (1)))),
 iq 5 (.mv (.s 11))]))))))
 (.seq
 (.reg [iq 4 (.mv (.c (.bool false)))])
 .ret))) }
theorem cf51_ok : compFn Try.prog Try.f51 [[], [0, 1, 5], [0, 1, 5], [0, 1, 5]] = some cf_sprueref4_in := by kernel_rfl
/- sprue/sprueref4.all -/
def cf_sprueref4_all : Eva.Fn := { ntmps := 52, res := [(.s 2)], body :=
 (.seq
 (.reg [iq 1 (.box (.s 0)),
 iq 2 (.mv (.c .snil))])
 (.seq
 (.reg [iq 3 (.mv (.c .snil))])
 (.seqj [1, 3]
 (.seq
 (.reg [iq 4 (.mv (.c (.int .i64 (0))))])
 (.block 0
 (.loop [1, 3, 4]
 (.seqj [1, 3, 4]
 (.seq
 (.reg [iq 6 (.mv (.s 4)),
 iq 7 (.faddr 4 (.s 1)),
 iq 8 (.load1 (.s 7)),
 iq 9 (.lenL (.s 8)),
 iq 10 (.bin .lss (.s 6) (.s 9))])
 (.cond (.s 10)
 .skip
 (.exit 0)))
 (.seqj [1, 3, 4]
 (.block 1
 (.reg [iq 13 (.mv (.s 3)),
 iq 14 (.faddr 4 (.s 1)),
 iq 15 (.load1 (.s 14)),
 iq 16 (.mv (.s 4)),
 iq 17 (.iaddrS 5 (.s 15) (.s 16)),
 iq 18 (.faddr 1 (.s 17)),
 iq 19 (.loadn 4 (.s 18)),
 iq 20 (.bsl 4 1 [(.int .i64 (0)), (ofL []), .snil, .snil] [(0, 4, (.s 19))]),
 iq 21 (.app 4 (.s 13) (.s 20)),
 iq 3 (.mv (.s 21))]))
 (.reg [iq 11 (.mv (.s 4)),
 iq 12 (.bin .add (.s 11) (.c (.int .i64 (1)))),
 iq 4 (.mv (.s 12))]))))))
 (.seq
 (.reg [iq 22 (.mv (.s 3)),
 iq 23 (.faddr 0 (.s 1)),
 iq 24 (.loadn 4 (.s 23)),
 iq 25 (.bsl 4 1 [(.int .i64 (0)), (ofL []), .snil, .snil] [(0, 4, (.s 24))]),
 iq 26 (.app 4 (.s 22) (.s 25)),
 iq 3 (.mv (.s 26))])
 (.seqj [3]
 (.seq
 (.reg [iq 5 (.mv (.c (.int .i64 (0))))])
 (.block 2
 (.loop [1, 3, 5]
 (.seqj [1, 3, 5]
 (.seq
 (.reg [iq 27 (.mv (.s 5)),
 iq 28 (.faddr 5 (.s 1)),
 iq 29 (.load1 (.s 28)),
 iq 30 (.lenL (.s 29)),
 iq 31 (.bin .lss (.s 27) (.s 30))])
 (.cond (.s 31)
 .skip
 (.exit 2)))
 (.seqj [1, 3, 5]
 (.block 3
 (.seq
 (.reg [iq 34 (.mv (.s 3)),
 iq 35 (.faddr 5 (.s 1)),
 iq 36 (.load1 (.s 35)),
 iq 37 (.mv (.s 5)),
 iq 38 (.iaddrS 6 (.s 36) (.s 37)),
 iq 39 (.faddr 1 (.s 38)),
 iq 40 (.load1 (.s 39)),
 iq 41 (.app 4 (.s 34) (.s 40)),
 iq 3 (.mv (.s 41))])
 (.reg [iq 42 (.mv (.s 3)),
 iq 43 (.faddr 5 (.s 1)),
 iq 44 (.load1 (.s 43)),
 iq 45 (.mv (.s 5)),
 iq 46 (.iaddrS 6 (.s 44) (.s 45)),
 iq 47 (.faddr 2 (.s 46)),
 iq 48 (.loadn 4 (.s 47)),
 iq 49 (.bsl 4 1 [(.int .i64 (0)), (ofL []), .snil, .snil] [(0, 4, (.s 48))]),
 iq 50 (.app 4 (.s 42) (.s 49)),
 iq 3 (.mv (.s 50))])))
 (.reg [iq 32 (.mv (.s 5)),
 iq 33 (.bin .add (.s 32) (.c (.int .i64 (1)))),
 iq 5 (.mv (.s 33))]))))))
 (.seq
 (.reg [iq 51 (.mv (.s 3)),
 iq 2 (.mv (.s 51))])
 .ret)))))) }
theorem cf29_ok : compFn Try.prog Try.f29 [[1, 3], [1, 3, 4], [1, 3, 4], [1, 3, 4], [3], [1, 3, 5], [1, 3, 5], [1, 3, 5]] = some cf_sprueref4_all := by kernel_rfl
/- sprue/sprueref4.opts -/
def cf_sprueref4_opts : Eva.Fn := { ntmps := 33, res := [(.s 4)], body :=
 (.seq
 (.reg [iq 2 (.box (.s 0)),
 iq 3 (.box (.s 1)),
 iq 4 (.mv (.c (.bool false)))])
 (.seqj [2, 3]
 (.seq
 (.drw [iq 6 (.faddr 0 (.s 3)),
 iq 7 (.load1 (.s 6)),
 iq 8 (.eq (.one .i) false (.s 7) (.c (.int .i64 (6)))),
 iq 9 (.mv (.s 8)),
 ig 10 9 true (.loadn 6 (.s 2)),
 ig 11 9 true (.faddr 3 (.s 3)),
 ig 12 9 true (.load1 (.s 11)),
 ig 13 9 true (.iaddrS 4 (.s 12) (.c (.int .i64 (0)))),
 ig 14 9 true (.loadn 4 (.s 13)),
 ⟨(some 15), (.call 48 [(.s 10), (.s 14)]), (some (9, true)), (some [])⟩,
 ig 16 9 true (.fld 0 none (.s 15)),
 ig 17 9 true (.eq (.one .i) false (.s 16) (.c (.int .i64 (6)))),
 iq 18 (.pick (.s 9) (.s 17) (.c (.bool false)))] [])
 (.cond (.s 18)
 (.seq
 (.reg [iq 4 (.mv (.c (.bool true)))])
 .ret)
 .skip))
 (.seqj []
 (.seq
 (.reg [iq 5 (.mv (.c (.int .i64 (0))))])
 (.block 0
 (.loop [2, 3, 5]
 (.seqj [2, 3, 5]
 (.seq
 (.reg [iq 19 (.mv (.s 5)),
 iq 20 (.faddr 3 (.s 3)),
 iq 21 (.load1 (.s 20)),
 iq 22 (.lenL (.s 21)),
 iq 23 (.bin .lss (.s 19) (.s 22))])
 (.cond (.s 23)
 .skip
 (.exit 0)))
 (.seqj [2, 3, 5]
 (.block 1
 (.seq
 (.drw [iq 26 (.loadn 6 (.s 2)),
 iq 27 (.faddr 3 (.s 3)),
 iq 28 (.load1 (.s 27)),
 iq 29 (.mv (.s 5)),
 iq 30 (.iaddrS 4 (.s 28) (.s 29)),
 iq 31 (.loadn 4 (.s 30)),
 ⟨(some 32), (.call 30 [(.s 26), (.s 31)]), none, (some [])⟩] [])
 (.cond (.s 32)
 (.seq
 (.reg [iq 4 (.mv (.c (.bool true)))])
 .ret)
 .skip)))
 (.reg [iq 24 (.mv (.s 5)),
 iq 25 (.bin .add (.s 24) (.c (.int .i64 (1)))),
 iq 5 (.mv (.s 25))]))))))
 (.seq
 (.reg [iq 4 (.mv (.c (.bool false)))])
 .ret)))) }
theorem cf30_ok : compFn Try.prog Try.f30 [[2, 3], [], [2, 3, 5], [2, 3, 5], [2, 3, 5]] = some cf_sprueref4_opts := by kernel_rfl
/- sprue/sprueref4.Open -/
def cf_sprueref4_Open : Eva.Fn := { ntmps := 26, res := [(.cn 4 4)], body :=
 (.seq
 (.reg [iq 2 (.box (.s 0)),
 iq 3 (.box (.s 1)),
 iq 4 (.alloc [(.int .i64 (0)), (ofL []), .snil, .snil])])
 (.seqj [3, 4]
 (.seq
 (.reg [iq 5 (.mv (.c (.int .i64 (0))))])
 (.block 0
 (.loop [2, 3, 4, 5]
 (.seqj [2, 3, 4, 5]
 (.seq
 (.reg [iq 6 (.mv (.s 5)),
 iq 7 (.faddr 4 (.s 2)),
 iq 8 (.load1 (.s 7)),
 iq 9 (.lenL (.s 8)),
 iq 10 (.bin .leq (.s 6) (.s 9)),
 iq 11 (.mv (.s 10)),
 ig 12 11 true (.faddr 0 (.s 3)),
 ig 13 11 true (.load1 (.s 12)),
 ig 14 11 true (.eq (.one .i) false (.s 13) (.c (.int .i64 (9)))),
 iq 15 (.pick (.s 11) (.s 14) (.c (.bool false)))])
 (.cond (.s 15)
 .skip
 (.exit 0)))
 (.seqj [2, 3, 4, 5]
 (.block 1
 (.reg [iq 19 (.loadn 6 (.s 2)),
 iq 20 (.faddr 1 (.s 3)),
 iq 21 (.load1 (.s 20)),
 iq 22 (.call 55 [(.s 19), (.s 21)]),
 iq 18 (.mv (.s 22)),
 iq 23 (.ext 0 (.s 18)),
 iq 24 (.ext 1 (.s 18)),
 iz (.store 4 (.s 3) (.s 23))]))
 (.reg [iq 16 (.mv (.s 5)),
 iq 17 (.bin .add (.s 16) (.c (.int .i64 (1)))),
 iq 5 (.mv (.s 17))]))))))
 (.seq
 (.reg [iq 25 (.loadn 4 (.s 3)),
 iz (.store 4 (.s 4) (.s 25))])
 .ret))) }
theorem cf48_ok : compFn Try.prog Try.f48 [[3, 4], [2, 3, 4, 5], [2, 3, 4, 5], [2, 3, 4, 5]] = some cf_sprueref4_Open := by kernel_rfl
/- sprue/spruelaw4.within -/
def cf_spruelaw4_within : Eva.Fn := { ntmps := 15, res := [(.s 4)], body :=
 (.seq
 (.reg [iq 4 (.mv (.c (.int .i64 (0))))])
 (.seq
 (.reg [iq 6 (.mv (.s 0)),
 iq 7 (.mv (.s 1)),
 iq 8 (.bin .rem (.s 6) (.s 7)),
 iq 5 (.mv (.s 8))])
 (.seqj [5]
 (.seq
 (.reg [iq 9 (.mv (.s 5)),
 iq 10 (.bin .lss (.s 9) (.c (.int .i64 (0))))])
 (.cond (.s 10)
 (.reg [iq 11 (.mv (.s 5)),
 iq 12 (.mv (.s 1)),
 iq 13 (.bin .add (.s 11) (.s 12)),
 iq 5 (.mv (.s 13))])
 .skip))
 (.seq
 (.reg [iq 14 (.mv (.s 5)),
 iq 4 (.mv (.s 14))])
 .ret)))) }
theorem cf12_ok : compFn Try.prog Try.f12 [[5]] = some cf_spruelaw4_within := by kernel_rfl
noncomputable def tabD : BT :=
 (.node 30 (.node 17 (.node 9 (.node 6 (.node 3 (.leaf 3 (fnD 1000000 cf_spruelaw4_ShapeChecks))
 (.node 5 (.leaf 5 (fnD 1000000 cf_spruelaw4_known))
 (.leaf 6 (fnD 1000000 cf_spruelaw3_FewAll))))
 (.node 7 (.leaf 7 (fnD 1000000 cf_spruelaw4_tame))
 (.node 8 (.leaf 8 (fnD 1000000 cf_spruelaw4_Size))
 (.leaf 9 (fnD 1000000 cf_spruelaw3_Schema)))))
 (.node 12 (.node 10 (.leaf 10 (fnD 1000000 cf_shape_Check))
 (.node 11 (.leaf 11 (fnD 1000000 cf_sprueref4_Check))
 (.leaf 12 (fnD 1000000 cf_spruelaw4_within))))
 (.node 14 (.node 13 (.leaf 13 (fnD 1000000 cf_spruelaw3_Few))
 (.leaf 14 (fnD 1000000 cf_shape_Finite)))
 (.node 16 (.leaf 16 (fnD 1000000 cf_spruelaw3_Tree))
 (.leaf 17 (fnD 1000000 cf_shape_types))))))
 (.node 23 (.node 20 (.node 18 (.leaf 18 (fnD 1000000 cf_shape_named))
 (.node 19 (.leaf 19 (fnD 1000000 cf_shape_looker_may))
 (.leaf 20 (fnD 1000000 cf_shape_looker_sigs))))
 (.node 21 (.leaf 21 (fnD 1000000 cf_slices_ContainsFunc_Type))
 (.node 22 (.leaf 22 (fnD 1000000 cf_shape_every))
 (.leaf 23 (fnD 1000000 cf_shape_looker_opts)))))
 (.node 26 (.node 24 (.leaf 24 (fnD 1000000 cf_sprueref1_Ident))
 (.node 25 (.leaf 25 (fnD 1000000 cf_sprueref4_word))
 (.leaf 26 (fnD 1000000 cf_sprueref4_walk_may))))
 (.node 28 (.node 27 (.leaf 27 (fnD 1000000 cf_sprueref4_Builtin))
 (.leaf 28 (fnD 1000000 cf_sprueref4_finite)))
 (.node 29 (.leaf 29 (fnD 1000000 cf_sprueref4_all))
 (.leaf 30 (fnD 1000000 cf_sprueref4_opts)))))))
 (.node 43 (.node 36 (.node 33 (.node 31 (.leaf 31 (fnD 1000000 cf_shape_ends))
 (.node 32 (.leaf 32 (fnD 1000000 cf_sprueref4_ends))
 (.leaf 33 (fnD 1000000 cf_spruelaw3_within))))
 (.node 34 (.leaf 34 (fnD 1000000 cf_spruelaw3_kid))
 (.node 35 (.leaf 35 (fnD 1000000 cf_spruelaw3_Name))
 (.leaf 36 (fnD 1000000 cf_spruelaw3_put)))))
 (.node 39 (.node 37 (.leaf 37 (fnD 1000000 cf_scan_Ident))
 (.node 38 (.leaf 38 (hookE containsG))
 (.leaf 39 (fnD 1000000 cf_shape_kids))))
 (.node 41 (.node 40 (.leaf 40 (fnD 1000000 cf_shape_fields))
 (.leaf 41 (fnD 1000000 cf_shape_Builtin)))
 (.node 42 (.leaf 42 (fnD 1000000 cf_shape_looker_all))
 (.leaf 43 (fnD 1000000 cf_slices_Clone_Type))))))
 (.node 50 (.node 46 (.node 44 (.leaf 44 (fnD 1000000 cf_slices_IndexFunc_Type))
 (.node 45 (.leaf 45 (fnD 1000000 cf_sprueref1_letter))
 (.leaf 46 (fnD 1000000 cf_sprueref1_digit))))
 (.node 48 (.node 47 (.leaf 47 (fnD 1000000 cf_sprueref4_own))
 (.leaf 48 (fnD 1000000 cf_sprueref4_Open)))
 (.node 49 (.leaf 49 (fnD 1000000 cf_shape_ends_1))
 (.leaf 50 (fnD 1000000 cf_shape_ends_2)))))
 (.node 53 (.node 51 (.leaf 51 (fnD 1000000 cf_sprueref4_in))
 (.node 52 (.leaf 52 (fnD 1000000 cf_scan_digit))
 (.leaf 53 (fnD 1000000 cf_scan_row))))
 (.node 56 (.node 55 (.leaf 55 (fnD 1000000 cf_sprueref4_Def))
 (.leaf 56 (fnD 1000000 cf_scan_front)))
 (.node 57 (.leaf 57 (fnD 1000000 cf_scan_row_1))
 (.leaf 58 (fnD 1000000 cf_scan_letter))))))))
abbrev n_spruelaw4_ShapeChecks : Nat := 3
theorem at_spruelaw4_ShapeChecks : tabT tabD 3 = some (evFn 1000000 cf_spruelaw4_ShapeChecks) := by kernel_rfl
abbrev n_spruelaw4_known : Nat := 5
theorem at_spruelaw4_known : tabT tabD 5 = some (evFn 1000000 cf_spruelaw4_known) := by kernel_rfl
abbrev n_spruelaw3_FewAll : Nat := 6
theorem at_spruelaw3_FewAll : tabT tabD 6 = some (evFn 1000000 cf_spruelaw3_FewAll) := by kernel_rfl
abbrev n_spruelaw4_tame : Nat := 7
theorem at_spruelaw4_tame : tabT tabD 7 = some (evFn 1000000 cf_spruelaw4_tame) := by kernel_rfl
abbrev n_spruelaw4_Size : Nat := 8
theorem at_spruelaw4_Size : tabT tabD 8 = some (evFn 1000000 cf_spruelaw4_Size) := by kernel_rfl
abbrev n_spruelaw3_Schema : Nat := 9
theorem at_spruelaw3_Schema : tabT tabD 9 = some (evFn 1000000 cf_spruelaw3_Schema) := by kernel_rfl
abbrev n_shape_Check : Nat := 10
theorem at_shape_Check : tabT tabD 10 = some (evFn 1000000 cf_shape_Check) := by kernel_rfl
abbrev n_sprueref4_Check : Nat := 11
theorem at_sprueref4_Check : tabT tabD 11 = some (evFn 1000000 cf_sprueref4_Check) := by kernel_rfl
abbrev n_spruelaw4_within : Nat := 12
theorem at_spruelaw4_within : tabT tabD 12 = some (evFn 1000000 cf_spruelaw4_within) := by kernel_rfl
abbrev n_spruelaw3_Few : Nat := 13
theorem at_spruelaw3_Few : tabT tabD 13 = some (evFn 1000000 cf_spruelaw3_Few) := by kernel_rfl
abbrev n_shape_Finite : Nat := 14
theorem at_shape_Finite : tabT tabD 14 = some (evFn 1000000 cf_shape_Finite) := by kernel_rfl
abbrev n_spruelaw3_Tree : Nat := 16
theorem at_spruelaw3_Tree : tabT tabD 16 = some (evFn 1000000 cf_spruelaw3_Tree) := by kernel_rfl
abbrev n_shape_types : Nat := 17
theorem at_shape_types : tabT tabD 17 = some (evFn 1000000 cf_shape_types) := by kernel_rfl
abbrev n_shape_named : Nat := 18
theorem at_shape_named : tabT tabD 18 = some (evFn 1000000 cf_shape_named) := by kernel_rfl
abbrev n_shape_looker_may : Nat := 19
theorem at_shape_looker_may : tabT tabD 19 = some (evFn 1000000 cf_shape_looker_may) := by kernel_rfl
abbrev n_shape_looker_sigs : Nat := 20
theorem at_shape_looker_sigs : tabT tabD 20 = some (evFn 1000000 cf_shape_looker_sigs) := by kernel_rfl
abbrev n_slices_ContainsFunc_Type : Nat := 21
theorem at_slices_ContainsFunc_Type : tabT tabD 21 = some (evFn 1000000 cf_slices_ContainsFunc_Type) := by kernel_rfl
abbrev n_shape_every : Nat := 22
theorem at_shape_every : tabT tabD 22 = some (evFn 1000000 cf_shape_every) := by kernel_rfl
abbrev n_shape_looker_opts : Nat := 23
theorem at_shape_looker_opts : tabT tabD 23 = some (evFn 1000000 cf_shape_looker_opts) := by kernel_rfl
abbrev n_sprueref1_Ident : Nat := 24
theorem at_sprueref1_Ident : tabT tabD 24 = some (evFn 1000000 cf_sprueref1_Ident) := by kernel_rfl
abbrev n_sprueref4_word : Nat := 25
theorem at_sprueref4_word : tabT tabD 25 = some (evFn 1000000 cf_sprueref4_word) := by kernel_rfl
abbrev n_sprueref4_walk_may : Nat := 26
theorem at_sprueref4_walk_may : tabT tabD 26 = some (evFn 1000000 cf_sprueref4_walk_may) := by kernel_rfl
abbrev n_sprueref4_Builtin : Nat := 27
theorem at_sprueref4_Builtin : tabT tabD 27 = some (evFn 1000000 cf_sprueref4_Builtin) := by kernel_rfl
abbrev n_sprueref4_finite : Nat := 28
theorem at_sprueref4_finite : tabT tabD 28 = some (evFn 1000000 cf_sprueref4_finite) := by kernel_rfl
abbrev n_sprueref4_all : Nat := 29
theorem at_sprueref4_all : tabT tabD 29 = some (evFn 1000000 cf_sprueref4_all) := by kernel_rfl
abbrev n_sprueref4_opts : Nat := 30
theorem at_sprueref4_opts : tabT tabD 30 = some (evFn 1000000 cf_sprueref4_opts) := by kernel_rfl
abbrev n_shape_ends : Nat := 31
theorem at_shape_ends : tabT tabD 31 = some (evFn 1000000 cf_shape_ends) := by kernel_rfl
abbrev n_sprueref4_ends : Nat := 32
theorem at_sprueref4_ends : tabT tabD 32 = some (evFn 1000000 cf_sprueref4_ends) := by kernel_rfl
abbrev n_spruelaw3_within : Nat := 33
theorem at_spruelaw3_within : tabT tabD 33 = some (evFn 1000000 cf_spruelaw3_within) := by kernel_rfl
abbrev n_spruelaw3_kid : Nat := 34
theorem at_spruelaw3_kid : tabT tabD 34 = some (evFn 1000000 cf_spruelaw3_kid) := by kernel_rfl
abbrev n_spruelaw3_Name : Nat := 35
theorem at_spruelaw3_Name : tabT tabD 35 = some (evFn 1000000 cf_spruelaw3_Name) := by kernel_rfl
abbrev n_spruelaw3_put : Nat := 36
theorem at_spruelaw3_put : tabT tabD 36 = some (evFn 1000000 cf_spruelaw3_put) := by kernel_rfl
abbrev n_scan_Ident : Nat := 37
theorem at_scan_Ident : tabT tabD 37 = some (evFn 1000000 cf_scan_Ident) := by kernel_rfl
abbrev n_strings_Contains : Nat := 38
theorem at_strings_Contains : tabT tabD 38 = some (hookE containsG).b := by kernel_rfl
abbrev n_shape_kids : Nat := 39
theorem at_shape_kids : tabT tabD 39 = some (evFn 1000000 cf_shape_kids) := by kernel_rfl
abbrev n_shape_fields : Nat := 40
theorem at_shape_fields : tabT tabD 40 = some (evFn 1000000 cf_shape_fields) := by kernel_rfl
abbrev n_shape_Builtin : Nat := 41
theorem at_shape_Builtin : tabT tabD 41 = some (evFn 1000000 cf_shape_Builtin) := by kernel_rfl
abbrev n_shape_looker_all : Nat := 42
theorem at_shape_looker_all : tabT tabD 42 = some (evFn 1000000 cf_shape_looker_all) := by kernel_rfl
abbrev n_slices_Clone_Type : Nat := 43
theorem at_slices_Clone_Type : tabT tabD 43 = some (evFn 1000000 cf_slices_Clone_Type) := by kernel_rfl
abbrev n_slices_IndexFunc_Type : Nat := 44
theorem at_slices_IndexFunc_Type : tabT tabD 44 = some (evFn 1000000 cf_slices_IndexFunc_Type) := by kernel_rfl
abbrev n_sprueref1_letter : Nat := 45
theorem at_sprueref1_letter : tabT tabD 45 = some (evFn 1000000 cf_sprueref1_letter) := by kernel_rfl
abbrev n_sprueref1_digit : Nat := 46
theorem at_sprueref1_digit : tabT tabD 46 = some (evFn 1000000 cf_sprueref1_digit) := by kernel_rfl
abbrev n_sprueref4_own : Nat := 47
theorem at_sprueref4_own : tabT tabD 47 = some (evFn 1000000 cf_sprueref4_own) := by kernel_rfl
abbrev n_sprueref4_Open : Nat := 48
theorem at_sprueref4_Open : tabT tabD 48 = some (evFn 1000000 cf_sprueref4_Open) := by kernel_rfl
abbrev n_shape_ends_1 : Nat := 49
theorem at_shape_ends_1 : tabT tabD 49 = some (evFn 1000000 cf_shape_ends_1) := by kernel_rfl
abbrev n_shape_ends_2 : Nat := 50
theorem at_shape_ends_2 : tabT tabD 50 = some (evFn 1000000 cf_shape_ends_2) := by kernel_rfl
abbrev n_sprueref4_in : Nat := 51
theorem at_sprueref4_in : tabT tabD 51 = some (evFn 1000000 cf_sprueref4_in) := by kernel_rfl
abbrev n_scan_digit : Nat := 52
theorem at_scan_digit : tabT tabD 52 = some (evFn 1000000 cf_scan_digit) := by kernel_rfl
abbrev n_scan_row : Nat := 53
theorem at_scan_row : tabT tabD 53 = some (evFn 1000000 cf_scan_row) := by kernel_rfl
abbrev n_sprueref4_Def : Nat := 55
theorem at_sprueref4_Def : tabT tabD 55 = some (evFn 1000000 cf_sprueref4_Def) := by kernel_rfl
abbrev n_scan_front : Nat := 56
theorem at_scan_front : tabT tabD 56 = some (evFn 1000000 cf_scan_front) := by kernel_rfl
abbrev n_scan_row_1 : Nat := 57
theorem at_scan_row_1 : tabT tabD 57 = some (evFn 1000000 cf_scan_row_1) := by kernel_rfl
abbrev n_scan_letter : Nat := 58
theorem at_scan_letter : tabT tabD 58 = some (evFn 1000000 cf_scan_letter) := by kernel_rfl
theorem mixed : Try.prog.follows .mixedOrders = true := by kernel_rfl
theorem tabD_B {ρ : Nat → Value} {W : World} (hρ : ∀ i, (ρ i).oneCell' = true) (hm : hasM 0 W) : tabD.all fun i e => BodyOK Try.prog ρ ⟨W.heap.size, W⟩ i e.b :=
 ⟨⟨⟨⟨⟨fnD_B cf3_ok Try.func3 (by decide) hρ mixed, ⟨fnD_B cf5_ok Try.func5 (by decide) hρ mixed, fnD_B cf6_ok Try.func6 (by decide) hρ mixed⟩⟩, ⟨fnD_B cf7_ok Try.func7 (by decide) hρ mixed, ⟨fnD_B cf8_ok Try.func8 (by decide) hρ mixed, fnD_B cf9_ok Try.func9 (by decide) hρ mixed⟩⟩⟩, ⟨⟨fnD_B cf10_ok Try.func10 (by decide) hρ mixed, ⟨fnD_B cf11_ok Try.func11 (by decide) hρ mixed, fnD_B cf12_ok Try.func12 (by decide) hρ mixed⟩⟩, ⟨⟨fnD_B cf13_ok Try.func13 (by decide) hρ mixed, fnD_B cf14_ok Try.func14 (by decide) hρ mixed⟩, ⟨fnD_B cf16_ok Try.func16 (by decide) hρ mixed, fnD_B cf17_ok Try.func17 (by decide) hρ mixed⟩⟩⟩⟩, ⟨⟨⟨fnD_B cf18_ok Try.func18 (by decide) hρ mixed, ⟨fnD_B cf19_ok Try.func19 (by decide) hρ mixed, fnD_B cf20_ok Try.func20 (by decide) hρ mixed⟩⟩, ⟨fnD_B cf21_ok Try.func21 (by decide) hρ mixed, ⟨fnD_B cf22_ok Try.func22 (by decide) hρ mixed, fnD_B cf23_ok Try.func23 (by decide) hρ mixed⟩⟩⟩, ⟨⟨fnD_B cf24_ok Try.func24 (by decide) hρ mixed, ⟨fnD_B cf25_ok Try.func25 (by decide) hρ mixed, fnD_B cf26_ok Try.func26 (by decide) hρ mixed⟩⟩, ⟨⟨fnD_B cf27_ok Try.func27 (by decide) hρ mixed, fnD_B cf28_ok Try.func28 (by decide) hρ mixed⟩, ⟨fnD_B cf29_ok Try.func29 (by decide) hρ mixed, fnD_B cf30_ok Try.func30 (by decide) hρ mixed⟩⟩⟩⟩⟩, ⟨⟨⟨⟨fnD_B cf31_ok Try.func31 (by decide) hρ mixed, ⟨fnD_B cf32_ok Try.func32 (by decide) hρ mixed, fnD_B cf33_ok Try.func33 (by decide) hρ mixed⟩⟩, ⟨fnD_B cf34_ok Try.func34 (by decide) hρ mixed, ⟨fnD_B cf35_ok Try.func35 (by decide) hρ mixed, fnD_B cf36_ok Try.func36 (by decide) hρ mixed⟩⟩⟩, ⟨⟨fnD_B cf37_ok Try.func37 (by decide) hρ mixed, ⟨containsE_B Try.func38 (by kernel_rfl) (by decide) hm fun s sub m w hs hm => Try.strings_Contains s sub m w hs hm, fnD_B cf39_ok Try.func39 (by decide) hρ mixed⟩⟩, ⟨⟨fnD_B cf40_ok Try.func40 (by decide) hρ mixed, fnD_B cf41_ok Try.func41 (by decide) hρ mixed⟩, ⟨fnD_B cf42_ok Try.func42 (by decide) hρ mixed, fnD_B cf43_ok Try.func43 (by decide) hρ mixed⟩⟩⟩⟩, ⟨⟨⟨fnD_B cf44_ok Try.func44 (by decide) hρ mixed, ⟨fnD_B cf45_ok Try.func45 (by decide) hρ mixed, fnD_B cf46_ok Try.func46 (by decide) hρ mixed⟩⟩, ⟨⟨fnD_B cf47_ok Try.func47 (by decide) hρ mixed, fnD_B cf48_ok Try.func48 (by decide) hρ mixed⟩, ⟨fnD_B cf49_ok Try.func49 (by decide) hρ mixed, fnD_B cf50_ok Try.func50 (by decide) hρ mixed⟩⟩⟩, ⟨⟨fnD_B cf51_ok Try.func51 (by decide) hρ mixed, ⟨fnD_B cf52_ok Try.func52 (by decide) hρ mixed, fnD_B cf53_ok Try.func53 (by decide) hρ mixed⟩⟩, ⟨⟨fnD_B cf55_ok Try.func55 (by decide) hρ mixed, fnD_B cf56_ok Try.func56 (by decide) hρ mixed⟩, ⟨fnD_B cf57_ok Try.func57 (by decide) hρ mixed, fnD_B cf58_ok Try.func58 (by decide) hρ mixed⟩⟩⟩⟩⟩⟩
end Go.Proofs.Ytjdphbjnoblnaaa
