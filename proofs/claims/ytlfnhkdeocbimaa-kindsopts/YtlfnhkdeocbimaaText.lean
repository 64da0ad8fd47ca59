/- The code of functions, as the evaluator has it; a table of them. No condition. -/
import Derived.Test.YtlfnhkdeocbimaaRows
import Derived.Test.YtlfnhkdeocbimaaShelf
import Derived.WalkKit
import Derived.Test.YtlfnhkdeocbimaaEvd9
namespace Go.Proofs.Ytlfnhkdeocbimaa
open Eva Go.RowKit
set_option maxRecDepth 100000
/- sprue/spruelaw8.KindsOpts -/
def cf_spruelaw8_KindsOpts : Eva.Fn := { ntmps := 182, res := [(.s 4)], body :=
 (.seq
 (.reg [iq 2 (.box (.s 0)),
 iq 3 (.box (.s 1)),
 iq 4 (.mv (.c (.bool false)))])
 (.seqj [2, 3]
 (.seq
 (.reg [iq 29 (.call 5 []),
 iq 30 (.not (.s 29))])
 (.cond (.s 30)
 (.seq
 (.reg [iq 4 (.mv (.c (.bool false)))])
 .ret)
 .skip))
 (.seqj [2, 3]
 (.seq
 (.reg [iq 31 (.loadn 4 (.s 2)),
 iq 32 (.call 6 [(.s 31), (.c (.int .i64 (30)))]),
 iq 33 (.eq (.one .i) false (.s 32) (.c (.int .i64 (0)))),
 iq 34 (.mv (.s 33)),
 ig 35 34 false (.loadn 4 (.s 3)),
 ig 36 34 false (.call 6 [(.s 35), (.c (.int .i64 (30)))]),
 ig 37 34 false (.eq (.one .i) false (.s 36) (.c (.int .i64 (0)))),
 iq 38 (.pick (.s 34) (.c (.bool true)) (.s 37))])
 (.cond (.s 38)
 (.seq
 (.reg [iq 4 (.mv (.c (.bool true)))])
 .ret)
 .skip))
 (.seq
 (.reg [iq 39 (.loadn 4 (.s 2)),
 iq 40 (.call 7 [(.s 39), (.c (.int .i64 (4))), (.c .snil)]),
 iq 5 (.alloc [(.int .i64 (0)), (ofL []), .snil, .snil]),
 iz (.store 4 (.s 5) (.s 40))])
 (.seq
 (.reg [iq 41 (.build [(.int .i64 (0)), (ofL []), .snil, .snil] [(0, 1, (.c (.int .i64 (3))))]),
 iq 6 (.alloc [(.int .i64 (0)), (ofL []), .snil, .snil]),
 iz (.store 4 (.s 6) (.s 41))])
 (.seq
 (.drw [iq 42 (.loadn 4 (.s 5)),
 iq 43 (.bsl 4 1 [(.int .i64 (0)), (ofL []), .snil, .snil] [(0, 4, (.s 42))]),
 iq 44 (.build [(.int .i64 (0)), (ofL []), .snil, .snil] [(0, 1, (.c (.int .i64 (5)))), (3, 1, (.s 43))]),
 iq 45 (.loadn 4 (.s 6)),
 iq 46 (.bsl 4 1 [(.int .i64 (0)), (ofL []), .snil, .snil] [(0, 4, (.s 45))]),
 iq 47 (.loadn 4 (.s 3)),
 ⟨(some 48), (.call 7 [(.s 47), (.c (.int .i64 (4))), (.c .snil)]), none, (some [5, 6])⟩,
 iq 49 (.build [(ofL []), .snil, (.int .i64 (0)), (ofL []), .snil, .snil] [(0, 1, (.c (ofL [102]))), (1, 1, (.s 46)), (2, 4, (.s 48))]),
 iq 50 (.bsl 6 1 [(ofL []), .snil, (.int .i64 (0)), (ofL []), .snil, .snil] [(0, 6, (.s 49))]),
 iq 51 (.build [(.int .i64 (0)), (ofL []), .snil, .snil, .snil, .snil] [(0, 4, (.s 44)), (5, 1, (.s 50))]),
 iq 7 (.alloc [(.int .i64 (0)), (ofL []), .snil, .snil, .snil, .snil]),
 iz (.store 6 (.s 7) (.s 51))] [])
 (.seq
 (.reg [iq 53 (.loadn 6 (.s 7)),
 iq 54 (.call 8 [(.s 53)]),
 iq 52 (.mv (.s 54)),
 iq 55 (.ext 0 (.s 52)),
 iq 56 (.ext 1 (.s 52)),
 iq 8 (.mv (.s 55)),
 iq 9 (.mv (.s 56))])
 (.seqj [5, 8]
 (.seq
 (.reg [iq 57 (.mv (.s 9)),
 iq 58 (.eq (.one .i) true (.s 57) (.c (.int .i64 (0))))])
 (.cond (.s 58)
 (.seq
 (.reg [iq 4 (.mv (.c (.bool true)))])
 .ret)
 .skip))
 (.seq
 (.reg [iq 60 (.mv (.s 8)),
 iq 61 (.call 10 [(.s 60), (.c (ofL [102]))]),
 iq 59 (.mv (.s 61)),
 iq 62 (.ext 0 (.s 59)),
 iq 63 (.ext 1 (.s 59)),
 iq 64 (.ext 2 (.s 59)),
 iq 10 (.mv (.s 62)),
 iq 11 (.mv (.s 63)),
 iq 12 (.mv (.s 64))])
 (.seq
 (.drw [iq 66 (.mv (.s 8)),
 iq 67 (.mv (.s 8)),
 iq 68 (.call 14 [(.s 67)]),
 iq 69 (.mv (.s 10)),
 iq 70 (.iaddrS 1 (.s 69) (.c (.int .i64 (0)))),
 iq 71 (.load1 (.s 70)),
 iq 72 (.bsl 1 2 [(.int .i64 (0)), (.int .i64 (0))] [(0, 1, (.s 68)), (1, 1, (.s 71))]),
 ⟨(some 73), (.call 12 [(.s 66), (.c (ofL [103, 101, 116])), (.s 72)]), none, (some [])⟩,
 iq 65 (.mv (.s 73)),
 iq 74 (.ext 0 (.s 65)),
 iq 75 (.ext 1 (.s 65)),
 iq 13 (.mv (.s 74)),
 iq 14 (.mv (.s 75))] [])
 (.seqj [5, 8, 11, 13, 14]
 (.seq
 (.reg [iq 76 (.faddr 0 (.s 5)),
 iq 77 (.load1 (.s 76)),
 iq 78 (.eq (.one .i) false (.s 77) (.c (.int .i64 (6))))])
 (.cond (.s 78)
 (.seq
 (.reg [iq 79 (.mv (.s 14)),
 iq 80 (.eq (.one .i) false (.s 79) (.c (.int .i64 (17)))),
 iq 81 (.mv (.s 80)),
 ig 82 81 true (.mv (.s 13)),
 ig 83 81 true (.eq (.one .i) false (.s 82) (.c (.int .i64 (0)))),
 iq 84 (.pick (.s 81) (.s 83) (.c (.bool false))),
 iq 4 (.mv (.s 84))])
 .ret)
 .skip))
 (.seqj [5, 8, 11, 13]
 (.seq
 (.reg [iq 85 (.mv (.s 14)),
 iq 86 (.eq (.one .i) true (.s 85) (.c (.int .i64 (0))))])
 (.cond (.s 86)
 (.seq
 (.reg [iq 87 (.mv (.s 14)),
 iq 88 (.eq (.one .i) false (.s 87) (.c (.int .i64 (20)))),
 iq 4 (.mv (.s 88))])
 .ret)
 .skip))
 (.seq
 (.reg [iq 90 (.mv (.s 8)),
 iq 91 (.loadn 4 (.s 5)),
 iq 92 (.call 15 [(.s 90), (.s 91)]),
 iq 89 (.mv (.s 92)),
 iq 93 (.ext 0 (.s 89)),
 iq 94 (.ext 1 (.s 89)),
 iq 15 (.mv (.s 93)),
 iq 16 (.mv (.s 94))])
 (.seq
 (.reg [iq 96 (.mv (.s 8)),
 iq 97 (.mv (.s 13)),
 iq 98 (.call 16 [(.s 96), (.s 97)]),
 iq 95 (.mv (.s 98)),
 iq 99 (.ext 0 (.s 95)),
 iq 100 (.ext 1 (.s 95)),
 iq 17 (.alloc [(.int .i64 (0)), (ofL []), .snil, .snil]),
 iz (.store 4 (.s 17) (.s 99)),
 iq 18 (.mv (.s 100))])
 (.seq
 (.reg [iq 102 (.mv (.s 8)),
 iq 103 (.mv (.s 13)),
 iq 104 (.mv (.s 15)),
 iq 105 (.bsl 1 2 [(.int .i64 (0)), (.int .i64 (0))] [(0, 1, (.s 103)), (1, 1, (.s 104))]),
 iq 106 (.call 12 [(.s 102), (.c (ofL [111, 114, 101, 108, 115, 101])), (.s 105)]),
 iq 101 (.mv (.s 106)),
 iq 107 (.ext 0 (.s 101)),
 iq 108 (.ext 1 (.s 101)),
 iq 19 (.mv (.s 107)),
 iq 20 (.mv (.s 108))])
 (.seq
 (.reg [iq 110 (.mv (.s 8)),
 iq 111 (.mv (.s 13)),
 iq 112 (.bsl 1 1 [(.int .i64 (0))] [(0, 1, (.s 111))]),
 iq 113 (.call 12 [(.s 110), (.c (ofL [104, 97, 115])), (.s 112)]),
 iq 109 (.mv (.s 113)),
 iq 114 (.ext 0 (.s 109)),
 iq 115 (.ext 1 (.s 109)),
 iq 21 (.mv (.s 114)),
 iq 22 (.mv (.s 115))])
 (.seq
 (.reg [iq 117 (.mv (.s 8)),
 iq 118 (.mv (.s 21)),
 iq 119 (.call 16 [(.s 117), (.s 118)]),
 iq 116 (.mv (.s 119)),
 iq 120 (.ext 0 (.s 116)),
 iq 121 (.ext 1 (.s 116)),
 iq 23 (.alloc [(.int .i64 (0)), (ofL []), .snil, .snil]),
 iz (.store 4 (.s 23) (.s 120)),
 iq 24 (.mv (.s 121))])
 (.seq
 (.reg [iq 123 (.mv (.s 8)),
 iq 124 (.mv (.s 13)),
 iq 125 (.mv (.s 11)),
 iq 126 (.bsl 1 2 [(.int .i64 (0)), (.int .i64 (0))] [(0, 1, (.s 124)), (1, 1, (.s 125))]),
 iq 127 (.call 12 [(.s 123), (.c (ofL [111, 114, 101, 108, 115, 101])), (.s 126)]),
 iq 122 (.mv (.s 127)),
 iq 128 (.ext 0 (.s 122)),
 iq 129 (.ext 1 (.s 122)),
 iq 25 (.mv (.s 128)),
 iq 26 (.mv (.s 129))])
 (.seq
 (.reg [iq 131 (.mv (.s 8)),
 iq 132 (.mv (.s 15)),
 iq 133 (.bsl 1 1 [(.int .i64 (0))] [(0, 1, (.s 132))]),
 iq 134 (.call 12 [(.s 131), (.c (ofL [104, 97, 115])), (.s 133)]),
 iq 130 (.mv (.s 134)),
 iq 135 (.ext 0 (.s 130)),
 iq 136 (.ext 1 (.s 130)),
 iq 27 (.mv (.s 135)),
 iq 28 (.mv (.s 136))])
 (.seq
 (.reg [iq 137 (.faddr 0 (.s 17)),
 iq 138 (.load1 (.s 137)),
 iq 139 (.eq (.one .i) false (.s 138) (.c (.int .i64 (6)))),
 iq 140 (.mv (.s 139)),
 ig 141 140 true (.faddr 3 (.s 17)),
 ig 142 140 true (.load1 (.s 141)),
 ig 143 140 true (.iaddrS 1 (.s 142) (.c (.int .i64 (0)))),
 ig 144 140 true (.load1 (.s 143)),
 ig 145 140 true (.mv (.s 15)),
 ig 146 140 true (.eq (.one .i) false (.s 144) (.s 145)),
 iq 147 (.pick (.s 140) (.s 146) (.c (.bool false))),
 iq 148 (.mv (.s 147)),
 ig 149 148 true (.mv (.s 20)),
 ig 150 148 true (.eq (.one .i) false (.s 149) (.c (.int .i64 (0)))),
 iq 151 (.pick (.s 148) (.s 150) (.c (.bool false))),
 iq 152 (.mv (.s 151)),
 ig 153 152 true (.mv (.s 19)),
 ig 154 152 true (.mv (.s 15)),
 ig 155 152 true (.eq (.one .i) false (.s 153) (.s 154)),
 iq 156 (.pick (.s 152) (.s 155) (.c (.bool false))),
 iq 157 (.mv (.s 156)),
 ig 158 157 true (.mv (.s 22)),
 ig 159 157 true (.eq (.one .i) false (.s 158) (.c (.int .i64 (0)))),
 ig 160 157 true (.mv (.s 159)),
 ig 161 160 true (.faddr 0 (.s 23)),
 ig 162 160 true (.load1 (.s 161)),
 ig 163 160 true (.eq (.one .i) false (.s 162) (.c (.int .i64 (1)))),
 ig 164 157 true (.pick (.s 160) (.s 163) (.c (.bool false))),
 ig 165 157 true (.mv (.s 164)),
 ig 166 165 false (.mv (.s 22)),
 ig 167 165 false (.eq (.one .i) false (.s 166) (.c (.int .i64 (20)))),
 ig 168 157 true (.pick (.s 165) (.c (.bool true)) (.s 167)),
 iq 169 (.pick (.s 157) (.s 168) (.c (.bool false))),
 iq 170 (.mv (.s 169)),
 ig 171 170 true (.mv (.s 26)),
 ig 172 170 true (.eq (.one .i) false (.s 171) (.c (.int .i64 (0)))),
 ig 173 170 true (.mv (.s 11)),
 ig 174 170 true (.mv (.s 15)),
 ig 175 170 true (.eq (.one .i) false (.s 173) (.s 174)),
 ig 176 170 true (.eq (.one .b) false (.s 172) (.s 175)),
 iq 177 (.pick (.s 170) (.s 176) (.c (.bool false))),
 iq 178 (.mv (.s 177)),
 ig 179 178 true (.mv (.s 28)),
 ig 180 178 true (.eq (.one .i) false (.s 179) (.c (.int .i64 (17)))),
 iq 181 (.pick (.s 178) (.s 180) (.c (.bool false))),
 iq 4 (.mv (.s 181))])
 .ret)))))))))))))))))))) }
theorem cf4_ok : compFn Try.prog Try.f4 [[2, 3], [2, 3], [5, 8], [5, 8, 11, 13, 14], [5, 8, 11, 13]] = some cf_spruelaw8_KindsOpts := by kernel_rfl
/- sprue/spruelaw8.known -/
def cf_spruelaw8_known : Eva.Fn := { ntmps := 37, res := [(.s 0)], body :=
 (.seq
 (.reg [iq 0 (.mv (.c (.bool false)))])
 (.seq
 (.reg [iq 8 (.build [(.int .i64 (0)), (ofL []), .snil, .snil] [(0, 1, (.c (.int .i64 (2))))]),
 iq 9 (.build [(.int .i64 (0)), (ofL []), .snil, .snil, .snil, .snil] [(0, 4, (.s 8))]),
 iq 10 (.call 8 [(.s 9)]),
 iq 7 (.mv (.s 10)),
 iq 11 (.ext 0 (.s 7)),
 iq 12 (.ext 1 (.s 7)),
 iq 1 (.mv (.s 11)),
 iq 2 (.mv (.s 12))])
 (.seqj [1]
 (.seq
 (.reg [iq 13 (.mv (.s 1)),
 iq 14 (.eq (.one .p) false (.s 13) (.c .pnil))])
 (.cond (.s 14)
 (.seq
 (.reg [iq 0 (.mv (.c (.bool false)))])
 .ret)
 .skip))
 (.seq
 (.reg [iq 16 (.mv (.s 1)),
 iq 17 (.bsl 1 1 [(.int .i64 (0))] [(0, 1, (.c (.int .i64 (0))))]),
 iq 18 (.call 12 [(.s 16), (.c (ofL [108, 101, 110])), (.s 17)]),
 iq 15 (.mv (.s 18)),
 iq 19 (.ext 0 (.s 15)),
 iq 20 (.ext 1 (.s 15)),
 iq 3 (.mv (.s 19)),
 iq 4 (.mv (.s 20))])
 (.seq
 (.reg [iq 22 (.mv (.s 1)),
 iq 23 (.bsl 1 2 [(.int .i64 (0)), (.int .i64 (0))] [(0, 1, (.c (.int .i64 (0)))), (1, 1, (.c (.int .i64 (0))))]),
 iq 24 (.call 12 [(.s 22), (.c (ofL [97, 100, 100])), (.s 23)]),
 iq 21 (.mv (.s 24)),
 iq 25 (.ext 0 (.s 21)),
 iq 26 (.ext 1 (.s 21)),
 iq 5 (.mv (.s 25)),
 iq 6 (.mv (.s 26))])
 (.seq
 (.reg [iq 27 (.mv (.s 4)),
 iq 28 (.eq (.one .i) false (.s 27) (.c (.int .i64 (17)))),
 iq 29 (.mv (.s 28)),
 ig 30 29 true (.mv (.s 6)),
 ig 31 29 true (.eq (.one .i) false (.s 30) (.c (.int .i64 (0)))),
 iq 32 (.pick (.s 29) (.s 31) (.c (.bool false))),
 iq 33 (.mv (.s 32)),
 ig 34 33 true (.mv (.s 5)),
 ig 35 33 true (.eq (.one .i) false (.s 34) (.c (.int .i64 (0)))),
 iq 36 (.pick (.s 33) (.s 35) (.c (.bool false))),
 iq 0 (.mv (.s 36))])
 .ret)))))) }
theorem cf5_ok : compFn Try.prog Try.f5 [[1]] = some cf_spruelaw8_known := by kernel_rfl
/- sprue/cons.New -/
def cf_cons_New : Eva.Fn := { ntmps := 115, res := [(.s 2), (.s 3)], body :=
 (.seq
 (.reg [iq 1 (.box (.s 0)),
 iq 2 (.mv (.c .pnil)),
 iq 3 (.mv (.c (.int .i64 (0))))])
 (.seqj [1]
 (.seq
 (.reg [iq 19 (.loadn 6 (.s 1)),
 iq 20 (.call 21 [(.s 19)]),
 iq 4 (.mv (.s 20))])
 (.seq
 (.reg [iq 21 (.mv (.s 4)),
 iq 22 (.eq (.one .i) true (.s 21) (.c (.int .i64 (0))))])
 (.cond (.s 22)
 (.seq
 (.reg [iq 23 (.mv (.s 4)),
 iq 2 (.mv (.c .pnil)),
 iq 3 (.mv (.s 23))])
 .ret)
 .skip)))
 (.seq
 (.reg [⟨(some 24), .mkmap, none, none⟩,
 ⟨(some 25), .mkmap, none, none⟩,
 ⟨(some 26), .mkmap, none, none⟩,
 iq 27 (.build [.snil, .mnil, .mnil, (.int .i64 (0)), .mnil] [(1, 1, (.s 24)), (2, 1, (.s 25)), (4, 1, (.s 26))]),
 iq 28 (.box (.s 27)),
 iq 5 (.mv (.s 28))])
 (.seqj [1, 5]
 (.seq
 (.reg [iq 29 (.faddr 4 (.s 1)),
 iq 30 (.load1 (.s 29)),
 iq 31 (.lenL (.s 30)),
 iq 32 (.mv (.c (.int .i64 (0))))])
 (.block 0
 (.loop [1, 5, 30, 31, 32]
 (.seq
 (.reg [iq 33 (.bin .lss (.s 32) (.s 31))])
 (.seqj [1, 5, 30, 31, 32]
 (.cond (.s 33)
 .skip
 (.exit 0))
 (.seqj [1, 5, 30, 31, 32]
 (.block 1
 (.seq
 (.reg [iq 34 (.iaddrS 5 (.s 30) (.s 32)),
 iq 35 (.loadn 5 (.s 34)),
 iq 7 (.alloc [(ofL []), (.int .i64 (0)), (ofL []), .snil, .snil]),
 iz (.store 5 (.s 7) (.s 35))])
 (.seq
 (.reg [iq 37 (.mv (.s 5)),
 iq 38 (.faddr 1 (.s 7)),
 iq 39 (.loadn 4 (.s 38)),
 iq 40 (.call 15 [(.s 37), (.s 39)]),
 iq 36 (.mv (.s 40)),
 iq 41 (.ext 0 (.s 36)),
 iq 42 (.ext 1 (.s 36)),
 iq 8 (.mv (.s 41)),
 iq 9 (.mv (.s 42))])
 (.seqj [1, 5, 7, 8, 30, 31, 32]
 (.seq
 (.reg [iq 43 (.mv (.s 9)),
 iq 44 (.eq (.one .i) true (.s 43) (.c (.int .i64 (0))))])
 (.cond (.s 44)
 (.seq
 (.reg [iq 45 (.mv (.s 9)),
 iq 2 (.mv (.c .pnil)),
 iq 3 (.mv (.s 45))])
 .ret)
 .skip))
 (.drw [iq 46 (.mv (.s 5)),
 iq 47 (.nilck (.s 46)),
 iq 48 (.faddr 2 (.s 47)),
 iq 49 (.load1 (.s 48)),
 iq 50 (.faddr 0 (.s 7)),
 iq 51 (.load1 (.s 50)),
 iq 52 (.mv (.s 8)),
 iz (.mupd (.one .s) (.s 49) (.s 51) (.s 52))] [])))))
 (.reg [iq 53 (.bin .add (.s 32) (.c (.int .i64 (1)))),
 iq 32 (.mv (.s 53))])))))))
 (.seq
 (.reg [iq 55 (.mv (.s 5)),
 iq 56 (.faddr 0 (.s 1)),
 iq 57 (.loadn 4 (.s 56)),
 iq 58 (.call 15 [(.s 55), (.s 57)]),
 iq 54 (.mv (.s 58)),
 iq 59 (.ext 0 (.s 54)),
 iq 60 (.ext 1 (.s 54)),
 iq 10 (.mv (.s 59)),
 iq 11 (.mv (.s 60))])
 (.seqj [1, 5, 10]
 (.seq
 (.reg [iq 61 (.mv (.s 11)),
 iq 62 (.eq (.one .i) true (.s 61) (.c (.int .i64 (0))))])
 (.cond (.s 62)
 (.seq
 (.reg [iq 63 (.mv (.s 11)),
 iq 2 (.mv (.c .pnil)),
 iq 3 (.mv (.s 63))])
 .ret)
 .skip))
 (.seq
 (.reg [iq 64 (.mv (.s 5)),
 iq 65 (.mv (.s 10)),
 iq 66 (.nilck (.s 64)),
 iq 67 (.faddr 3 (.s 66)),
 iz (.store 1 (.s 67) (.s 65))])
 (.seqj [5]
 (.seq
 (.reg [iq 68 (.faddr 5 (.s 1)),
 iq 69 (.load1 (.s 68)),
 iq 70 (.lenL (.s 69)),
 iq 71 (.mv (.c (.int .i64 (0))))])
 (.block 2
 (.loop [5, 69, 70, 71]
 (.seq
 (.reg [iq 72 (.bin .lss (.s 71) (.s 70))])
 (.seqj [5, 69, 70, 71]
 (.cond (.s 72)
 .skip
 (.exit 2))
 (.seqj [5, 69, 70, 71]
 (.block 3
 (.seq
 (.reg [iq 73 (.iaddrS 6 (.s 69) (.s 71)),
 iq 74 (.loadn 6 (.s 73)),
 iq 13 (.alloc [(ofL []), .snil, (.int .i64 (0)), (ofL []), .snil, .snil]),
 iz (.store 6 (.s 13) (.s 74))])
 (.seq
 (.reg [iq 75 (.faddr 1 (.s 13)),
 iq 76 (.load1 (.s 75)),
 iq 77 (.lenL (.s 76)),
 iq 78 (.bin .add (.s 77) (.c (.int .i64 (1)))),
 iq 79 (.mksl 1 [(.int .i64 (0))] (.c (.int .i64 (0))) (.s 78)),
 iq 14 (.mv (.s 79))])
 (.seqj [5, 13, 14, 69, 70, 71]
 (.seq
 (.drw [iq 80 (.faddr 1 (.s 13)),
 iq 81 (.load1 (.s 80)),
 iq 82 (.call 22 [(.s 81)]),
 iq 83 (.faddr 2 (.s 13)),
 iq 84 (.loadn 4 (.s 83)),
 iq 85 (.bsl 4 1 [(.int .i64 (0)), (ofL []), .snil, .snil] [(0, 4, (.s 84))]),
 iq 86 (.app 4 (.s 82) (.s 85)),
 iq 87 (.lenL (.s 86)),
 iq 88 (.mv (.c (.int .i64 (0))))] [])
 (.block 4
 (.loop [5, 13, 14, 69, 70, 71, 86, 87, 88]
 (.seq
 (.reg [iq 89 (.bin .lss (.s 88) (.s 87))])
 (.seqj [5, 13, 14, 69, 70, 71, 86, 87, 88]
 (.cond (.s 89)
 .skip
 (.exit 4))
 (.seqj [5, 13, 14, 69, 70, 71, 86, 87, 88]
 (.block 5
 (.seq
 (.reg [iq 90 (.iaddrS 4 (.s 86) (.s 88)),
 iq 91 (.loadn 4 (.s 90)),
 iq 16 (.alloc [(.int .i64 (0)), (ofL []), .snil, .snil]),
 iz (.store 4 (.s 16) (.s 91))])
 (.seq
 (.reg [iq 93 (.mv (.s 5)),
 iq 94 (.loadn 4 (.s 16)),
 iq 95 (.call 15 [(.s 93), (.s 94)]),
 iq 92 (.mv (.s 95)),
 iq 96 (.ext 0 (.s 92)),
 iq 97 (.ext 1 (.s 92)),
 iq 17 (.mv (.s 96)),
 iq 18 (.mv (.s 97))])
 (.seqj [5, 13, 14, 17, 69, 70, 71, 86, 87, 88]
 (.seq
 (.reg [iq 98 (.mv (.s 18)),
 iq 99 (.eq (.one .i) true (.s 98) (.c (.int .i64 (0))))])
 (.cond (.s 99)
 (.seq
 (.reg [iq 100 (.mv (.s 18)),
 iq 2 (.mv (.c .pnil)),
 iq 3 (.mv (.s 100))])
 .ret)
 .skip))
 (.reg [iq 101 (.mv (.s 14)),
 iq 102 (.mv (.s 17)),
 iq 103 (.bsl 1 1 [(.int .i64 (0))] [(0, 1, (.s 102))]),
 iq 104 (.app 1 (.s 101) (.s 103)),
 iq 14 (.mv (.s 104))])))))
 (.reg [iq 105 (.bin .add (.s 88) (.c (.int .i64 (1)))),
 iq 88 (.mv (.s 105))])))))))
 (.drw [iq 106 (.mv (.s 5)),
 iq 107 (.nilck (.s 106)),
 iq 108 (.faddr 4 (.s 107)),
 iq 109 (.load1 (.s 108)),
 iq 110 (.faddr 0 (.s 13)),
 iq 111 (.load1 (.s 110)),
 iq 112 (.mv (.s 14)),
 iz (.mupd (.one .s) (.s 109) (.s 111) (.s 112))] [])))))
 (.reg [iq 113 (.bin .add (.s 71) (.c (.int .i64 (1)))),
 iq 71 (.mv (.s 113))])))))))
 (.seq
 (.reg [iq 114 (.mv (.s 5)),
 iq 2 (.mv (.s 114)),
 iq 3 (.mv (.c (.int .i64 (0))))])
 .ret))))))))) }
theorem cf8_ok : compFn Try.prog Try.f8 [[1], [1, 5], [1, 5, 30, 31, 32], [1, 5, 30, 31, 32], [1, 5, 30, 31, 32], [1, 5, 7, 8, 30, 31, 32], [1, 5, 10], [5], [5, 69, 70, 71], [5, 69, 70, 71], [5, 69, 70, 71], [5, 13, 14, 69, 70, 71], [5, 13, 14, 69, 70, 71, 86, 87, 88], [5, 13, 14, 69, 70, 71, 86, 87, 88], [5, 13, 14, 69, 70, 71, 86, 87, 88], [5, 13, 14, 17, 69, 70, 71, 86, 87, 88]] = some cf_cons_New := by kernel_rfl
/- sprue/shape.Check -/
def cf_shape_Check : Eva.Fn := { ntmps := 79, res := [(.s 2)], body :=
 (.seq
 (.reg [iq 1 (.box (.s 0)),
 iq 2 (.mv (.c (.int .i64 (0))))])
 (.seqj [1]
 (.seq
 (.reg [iq 12 (.faddr 4 (.s 1)),
 iq 13 (.load1 (.s 12)),
 iq 14 (.lenL (.s 13)),
 iq 15 (.bin .gtr (.s 14) (.c (.int .i64 (12)))),
 iq 16 (.mv (.s 15)),
 ig 17 16 false (.faddr 5 (.s 1)),
 ig 18 16 false (.load1 (.s 17)),
 ig 19 16 false (.lenL (.s 18)),
 ig 20 16 false (.bin .gtr (.s 19) (.c (.int .i64 (12)))),
 iq 21 (.pick (.s 16) (.c (.bool true)) (.s 20))])
 (.cond (.s 21)
 (.seq
 (.reg [iq 2 (.mv (.c (.int .i64 (3))))])
 .ret)
 .skip))
 (.seqj [1]
 (.seq
 (.reg [iq 22 (.faddr 4 (.s 1)),
 iq 23 (.load1 (.s 22)),
 iq 24 (.call 34 [(.s 23)]),
 iq 3 (.mv (.s 24))])
 (.seq
 (.reg [iq 25 (.mv (.s 3)),
 iq 26 (.eq (.one .i) true (.s 25) (.c (.int .i64 (0))))])
 (.cond (.s 26)
 (.seq
 (.reg [iq 27 (.mv (.s 3)),
 iq 2 (.mv (.s 27))])
 .ret)
 .skip)))
 (.seq
 (.reg [iq 28 (.loadn 6 (.s 1)),
 iq 29 (.call 35 [(.s 28)]),
 iq 30 (.build [.mnil, (.int .i64 (0))] [(0, 1, (.s 29))]),
 iq 31 (.box (.s 30)),
 iq 4 (.mv (.s 31))])
 (.seqj [1, 4]
 (.seq
 (.reg [iq 32 (.faddr 4 (.s 1)),
 iq 33 (.load1 (.s 32)),
 iq 34 (.lenL (.s 33)),
 iq 35 (.mv (.c (.int .i64 (0))))])
 (.block 0
 (.loop [1, 4, 33, 34, 35]
 (.seq
 (.reg [iq 36 (.bin .lss (.s 35) (.s 34))])
 (.seqj [1, 4, 33, 34, 35]
 (.cond (.s 36)
 .skip
 (.exit 0))
 (.seqj [1, 4, 33, 34, 35]
 (.block 1
 (.seq
 (.reg [iq 37 (.iaddrS 5 (.s 33) (.s 35)),
 iq 38 (.loadn 5 (.s 37)),
 iq 6 (.alloc [(ofL []), (.int .i64 (0)), (ofL []), .snil, .snil]),
 iz (.store 5 (.s 6) (.s 38))])
 (.seq
 (.reg [iq 39 (.mv (.s 4)),
 iq 40 (.faddr 1 (.s 6)),
 iq 41 (.loadn 4 (.s 40)),
 iq 42 (.call 36 [(.s 39), (.s 41), (.c (.int .i64 (1)))]),
 iq 7 (.mv (.s 42))])
 (.seq
 (.reg [iq 43 (.mv (.s 7)),
 iq 44 (.eq (.one .i) true (.s 43) (.c (.int .i64 (0))))])
 (.cond (.s 44)
 (.seq
 (.reg [iq 45 (.mv (.s 7)),
 iq 2 (.mv (.s 45))])
 .ret)
 .skip)))))
 (.reg [iq 46 (.bin .add (.s 35) (.c (.int .i64 (1)))),
 iq 35 (.mv (.s 46))])))))))
 (.seqj [1, 4]
 (.seq
 (.reg [iq 47 (.mv (.s 4)),
 iq 48 (.faddr 0 (.s 1)),
 iq 49 (.loadn 4 (.s 48)),
 iq 50 (.call 36 [(.s 47), (.s 49), (.c (.int .i64 (1)))]),
 iq 8 (.mv (.s 50))])
 (.seq
 (.reg [iq 51 (.mv (.s 8)),
 iq 52 (.eq (.one .i) true (.s 51) (.c (.int .i64 (0))))])
 (.cond (.s 52)
 (.seq
 (.reg [iq 53 (.mv (.s 8)),
 iq 2 (.mv (.s 53))])
 .ret)
 .skip)))
 (.seqj [1, 4]
 (.seq
 (.reg [iq 54 (.mv (.s 4)),
 iq 55 (.faddr 5 (.s 1)),
 iq 56 (.load1 (.s 55)),
 iq 57 (.call 37 [(.s 54), (.s 56)]),
 iq 9 (.mv (.s 57))])
 (.seq
 (.reg [iq 58 (.mv (.s 9)),
 iq 59 (.eq (.one .i) true (.s 58) (.c (.int .i64 (0))))])
 (.cond (.s 59)
 (.seq
 (.reg [iq 60 (.mv (.s 9)),
 iq 2 (.mv (.s 60))])
 .ret)
 .skip)))
 (.seqj [1, 4]
 (.seq
 (.reg [iq 61 (.faddr 4 (.s 1)),
 iq 62 (.load1 (.s 61)),
 iq 63 (.lenL (.s 62)),
 iq 64 (.mv (.c (.int .i64 (0))))])
 (.block 2
 (.loop [1, 4, 62, 63, 64]
 (.seq
 (.reg [iq 65 (.bin .lss (.s 64) (.s 63))])
 (.seqj [1, 4, 62, 63, 64]
 (.cond (.s 65)
 .skip
 (.exit 2))
 (.seqj [1, 4, 62, 63, 64]
 (.block 3
 (.seq
 (.reg [iq 66 (.iaddrS 5 (.s 62) (.s 64)),
 iq 67 (.loadn 5 (.s 66)),
 iq 11 (.alloc [(ofL []), (.int .i64 (0)), (ofL []), .snil, .snil]),
 iz (.store 5 (.s 11) (.s 67))])
 (.seq
 (.reg [iq 68 (.loadn 6 (.s 1)),
 iq 69 (.faddr 1 (.s 11)),
 iq 70 (.loadn 4 (.s 69)),
 iq 71 (.call 38 [(.s 68), (.s 70)]),
 iq 72 (.not (.s 71))])
 (.cond (.s 72)
 (.seq
 (.reg [iq 2 (.mv (.c (.int .i64 (14))))])
 .ret)
 .skip))))
 (.reg [iq 73 (.bin .add (.s 64) (.c (.int .i64 (1)))),
 iq 64 (.mv (.s 73))])))))))
 (.seqj []
 (.seq
 (.reg [iq 74 (.loadn 6 (.s 1)),
 iq 75 (.call 40 [(.s 74)]),
 iq 76 (.mv (.s 4)),
 iq 77 (.mkfn 41 [(.s 76)] []),
 iq 78 (.call 39 [(.s 75), (.s 77)])])
 (.cond (.s 78)
 (.seq
 (.reg [iq 2 (.mv (.c (.int .i64 (17))))])
 .ret)
 .skip))
 (.seq
 (.reg [iq 2 (.mv (.c (.int .i64 (0))))])
 .ret)))))))))) }
theorem cf21_ok : compFn Try.prog Try.f21 [[1], [1], [1, 4], [1, 4, 33, 34, 35], [1, 4, 33, 34, 35], [1, 4, 33, 34, 35], [1, 4], [1, 4], [1, 4], [1, 4, 62, 63, 64], [1, 4, 62, 63, 64], [1, 4, 62, 63, 64], []] = some cf_shape_Check := by kernel_rfl
/- sprue/shape.types -/
def cf_shape_types : Eva.Fn := { ntmps := 39, res := [(.s 2)], body :=
 (.seq
 (.reg [iq 2 (.mv (.c (.int .i64 (0))))])
 (.seqj []
 (.seq
 (.reg [iq 5 (.mv (.s 0)),
 iq 6 (.lenL (.s 5)),
 iq 7 (.mv (.c (.int .i64 (0))))])
 (.block 0
 (.loop [0, 5, 6, 7]
 (.seq
 (.reg [iq 8 (.bin .lss (.s 7) (.s 6))])
 (.seqj [0, 5, 6, 7]
 (.cond (.s 8)
 .skip
 (.exit 0))
 (.seqj [0, 5, 6, 7]
 (.block 1
 (.seq
 (.reg [iq 9 (.mv (.s 7)),
 iq 10 (.iaddrS 5 (.s 5) (.s 7)),
 iq 11 (.loadn 5 (.s 10)),
 iq 4 (.alloc [(ofL []), (.int .i64 (0)), (ofL []), .snil, .snil]),
 iq 3 (.mv (.s 9)),
 iz (.store 5 (.s 4) (.s 11))])
 (.block 2
 (.seq
 (.reg [iq 13 (.faddr 0 (.s 4)),
 iq 14 (.load1 (.s 13)),
 iq 15 (.call 50 [(.s 14)]),
 iq 16 (.not (.s 15)),
 iq 17 (.mv (.s 16)),
 ig 18 17 false (.faddr 0 (.s 4)),
 ig 19 17 false (.load1 (.s 18)),
 ig 20 17 false (.bin .add (.c (ofL [32])) (.s 19)),
 ig 21 17 false (.bin .add (.s 20) (.c (ofL [32]))),
 ig 22 17 false (.call 51 [(.c (ofL [32, 66, 111, 111, 108, 32, 73, 110, 116, 32, 84, 101, 120, 116, 32, 76, 105, 115, 116, 32, 77, 97, 112, 32, 79, 112, 116, 32, 85, 110, 105, 111, 110, 32])), (.s 21)]),
 iq 23 (.pick (.s 17) (.c (.bool true)) (.s 22)),
 iq 12 (.mv (.s 23))])
 (.cond (.s 12)
 (.seq
 (.reg [iq 2 (.mv (.c (.int .i64 (15))))])
 .ret)
 (.seq
 (.drw [iq 25 (.mv (.s 3)),
 iq 26 (.bin .gtr (.s 25) (.c (.int .i64 (0)))),
 iq 27 (.mv (.s 26)),
 ig 28 27 true (.mv (.s 0)),
 ig 29 27 true (.mv (.s 3)),
 ig 30 27 true (.bin .sub (.s 29) (.c (.int .i64 (1)))),
 ig 31 27 true (.iaddrS 5 (.s 28) (.s 30)),
 ig 32 27 true (.faddr 0 (.s 31)),
 ig 33 27 true (.load1 (.s 32)),
 ig 34 27 true (.faddr 0 (.s 4)),
 ig 35 27 true (.load1 (.s 34)),
 ig 36 27 true (.bin .geq (.s 33) (.s 35)),
 iq 37 (.pick (.s 27) (.s 36) (.c (.bool false))),
 iq 24 (.mv (.s 37))] [])
 (.cond (.s 24)
 (.seq
 (.reg [iq 2 (.mv (.c (.int .i64 (6))))])
 .ret)
 .skip)))))))
 (.reg [iq 38 (.bin .add (.s 7) (.c (.int .i64 (1)))),
 iq 7 (.mv (.s 38))])))))))
 (.seq
 (.reg [iq 2 (.mv (.c (.int .i64 (0))))])
 .ret))) }
theorem cf34_ok : compFn Try.prog Try.f34 [[], [0, 5, 6, 7], [0, 5, 6, 7], [0, 5, 6, 7]] = some cf_shape_types := by kernel_rfl
/- sprue/scan.Ident -/
def cf_scan_Ident : Eva.Fn := { ntmps := 23, res := [(.s 2)], body :=
 (.seq
 (.reg [iq 2 (.mv (.c (.bool false)))])
 (.seq
 (.reg [iq 3 (.mv (.s 0)),
 iq 4 (.eq (.one .s) true (.s 3) (.c (ofL []))),
 iq 5 (.mv (.s 4)),
 ig 6 5 true (.mv (.s 0)),
 ig 7 5 true (.lenS (.s 6)),
 ig 8 5 true (.bin .leq (.s 7) (.c (.int .i64 (16)))),
 iq 9 (.pick (.s 5) (.s 8) (.c (.bool false))),
 iq 10 (.mv (.s 9)),
 ig 11 10 true (.mv (.s 0)),
 ig 12 10 true (.idxS (.s 11) (.c (.int .i64 (0)))),
 ig 13 10 true (.call 72 [(.s 12)]),
 ig 14 10 true (.not (.s 13)),
 iq 15 (.pick (.s 10) (.s 14) (.c (.bool false))),
 iq 16 (.mv (.s 15)),
 ig 17 16 true (.mv (.s 0)),
 ig 18 16 true (.call 73 [(.s 17)]),
 ig 19 16 true (.mv (.s 0)),
 ig 20 16 true (.lenS (.s 19)),
 ig 21 16 true (.eq (.one .i) false (.s 18) (.s 20)),
 iq 22 (.pick (.s 16) (.s 21) (.c (.bool false))),
 iq 2 (.mv (.s 22))])
 .ret)) }
theorem cf50_ok : compFn Try.prog Try.f50 [] = some cf_scan_Ident := by kernel_rfl
/- sprue/scan.digit -/
def cf_scan_digit : Eva.Fn := { ntmps := 9, res := [(.s 2)], body :=
 (.seq
 (.reg [iq 2 (.mv (.c (.bool false)))])
 (.seq
 (.reg [iq 3 (.mv (.s 0)),
 iq 4 (.bin .geq (.s 3) (.c (.int .u8 (48)))),
 iq 5 (.mv (.s 4)),
 ig 6 5 true (.mv (.s 0)),
 ig 7 5 true (.bin .leq (.s 6) (.c (.int .u8 (57)))),
 iq 8 (.pick (.s 5) (.s 7) (.c (.bool false))),
 iq 2 (.mv (.s 8))])
 .ret)) }
theorem cf72_ok : compFn Try.prog Try.f72 [] = some cf_scan_digit := by kernel_rfl
/- sprue/scan.row -/
def cf_scan_row : Eva.Fn := { ntmps := 5, res := [(.s 2)], body :=
 (.seq
 (.reg [iq 2 (.mv (.c (.int .i64 (0))))])
 (.seq
 (.reg [iq 3 (.mv (.s 0)),
 iq 4 (.call 83 [(.s 3), (.c (.fn 84 [] []))]),
 iq 2 (.mv (.s 4))])
 .ret)) }
theorem cf73_ok : compFn Try.prog Try.f73 [] = some cf_scan_row := by kernel_rfl
/- sprue/scan.front -/
def cf_scan_front : Eva.Fn := { ntmps := 20, res := [(.s 4)], body :=
 (.seq
 (.reg [iq 4 (.mv (.c (.int .i64 (0))))])
 (.seqj [0]
 (.seq
 (.reg [iq 6 (.mv (.s 0)),
 iq 7 (.rngS (.s 6))])
 (.block 0
 (.loop [0, 1, 7]
 (.seq
 (.reg [iq 8 (.nextS (.s 7)),
 iq 9 (.ext 0 (.s 8))])
 (.seqj [0, 1, 7, 8]
 (.cond (.s 9)
 .skip
 (.exit 0))
 (.block 1
 (.seq
 (.reg [iq 10 (.ext 1 (.s 8)),
 iq 5 (.mv (.s 10))])
 (.seq
 (.reg [iq 11 (.mv (.s 1)),
 iq 12 (.mv (.s 0)),
 iq 13 (.mv (.s 5)),
 iq 14 (.idxS (.s 12) (.s 13)),
 iq 15 (.callv (.s 11) [(.s 14)]),
 iq 16 (.not (.s 15))])
 (.cond (.s 16)
 (.seq
 (.reg [iq 17 (.mv (.s 5)),
 iq 4 (.mv (.s 17))])
 .ret)
 .skip)))))))))
 (.seq
 (.reg [iq 18 (.mv (.s 0)),
 iq 19 (.lenS (.s 18)),
 iq 4 (.mv (.s 19))])
 .ret))) }
theorem cf83_ok : compFn Try.prog Try.f83 [[0], [0, 1, 7], [0, 1, 7, 8]] = some cf_scan_front := by kernel_rfl
/- sprue/scan.row$1 -/
def cf_scan_row_1 : Eva.Fn := { ntmps := 9, res := [(.s 2)], body :=
 (.seq
 (.reg [iq 2 (.mv (.c (.bool false)))])
 (.seq
 (.reg [iq 3 (.mv (.s 0)),
 iq 4 (.call 85 [(.s 3)]),
 iq 5 (.mv (.s 4)),
 ig 6 5 false (.mv (.s 0)),
 ig 7 5 false (.call 72 [(.s 6)]),
 iq 8 (.pick (.s 5) (.c (.bool true)) (.s 7)),
 iq 2 (.mv (.s 8))])
 .ret)) }
theorem cf84_ok : compFn Try.prog Try.f84 [] = some cf_scan_row_1 := by kernel_rfl
/- sprue/scan.letter -/
def cf_scan_letter : Eva.Fn := { ntmps := 15, res := [(.s 2)], body :=
 (.seq
 (.reg [iq 2 (.mv (.c (.bool false)))])
 (.seq
 (.reg [iq 3 (.mv (.s 0)),
 iq 4 (.eq (.one .i) false (.s 3) (.c (.int .u8 (95)))),
 iq 5 (.mv (.s 4)),
 ig 6 5 false (.mv (.s 0)),
 ig 7 5 false (.bin .or (.s 6) (.c (.int .u8 (32)))),
 ig 8 5 false (.bin .geq (.s 7) (.c (.int .u8 (97)))),
 ig 9 5 false (.mv (.s 8)),
 ig 10 9 true (.mv (.s 0)),
 ig 11 9 true (.bin .or (.s 10) (.c (.int .u8 (32)))),
 ig 12 9 true (.bin .leq (.s 11) (.c (.int .u8 (122)))),
 ig 13 5 false (.pick (.s 9) (.s 12) (.c (.bool false))),
 iq 14 (.pick (.s 5) (.c (.bool true)) (.s 13)),
 iq 2 (.mv (.s 14))])
 .ret)) }
theorem cf85_ok : compFn Try.prog Try.f85 [] = some cf_scan_letter := by kernel_rfl
/- sprue/shape.named -/
def cf_shape_named : Eva.Fn := { ntmps := 21, res := [(.s 2)], body :=
 (.seq
 (.reg [iq 1 (.box (.s 0)),
 iq 2 (.mv (.c .mnil))])
 (.seq
 (.reg [⟨(some 6), .mkmap, none, none⟩,
 iq 3 (.mv (.s 6))])
 (.seqj [3]
 (.seq
 (.reg [iq 7 (.faddr 4 (.s 1)),
 iq 8 (.load1 (.s 7)),
 iq 9 (.lenL (.s 8)),
 iq 10 (.mv (.c (.int .i64 (0))))])
 (.block 0
 (.loop [3, 8, 9, 10]
 (.seq
 (.reg [iq 11 (.bin .lss (.s 10) (.s 9))])
 (.seqj [3, 8, 9, 10]
 (.cond (.s 11)
 .skip
 (.exit 0))
 (.seqj [3, 8, 9, 10]
 (.block 1
 (.seq
 (.reg [iq 12 (.iaddrS 5 (.s 8) (.s 10)),
 iq 13 (.loadn 5 (.s 12)),
 iq 5 (.alloc [(ofL []), (.int .i64 (0)), (ofL []), .snil, .snil]),
 iz (.store 5 (.s 5) (.s 13))])
 (.reg [iq 14 (.mv (.s 3)),
 iq 15 (.faddr 0 (.s 5)),
 iq 16 (.load1 (.s 15)),
 iq 17 (.faddr 1 (.s 5)),
 iq 18 (.loadn 4 (.s 17)),
 iz (.mupd (.one .s) (.s 14) (.s 16) (.s 18))])))
 (.reg [iq 19 (.bin .add (.s 10) (.c (.int .i64 (1)))),
 iq 10 (.mv (.s 19))])))))))
 (.seq
 (.reg [iq 20 (.mv (.s 3)),
 iq 2 (.mv (.s 20))])
 .ret)))) }
theorem cf35_ok : compFn Try.prog Try.f35 [[3], [3, 8, 9, 10], [3, 8, 9, 10], [3, 8, 9, 10]] = some cf_shape_named := by kernel_rfl
/- (*sprue/shape.looker).may -/
def cf_shape_looker_may : Eva.Fn := { ntmps := 113, res := [(.s 6)], body :=
 (.seq
 (.reg [iq 4 (.box (.s 1)),
 iq 6 (.mv (.c (.int .i64 (0))))])
 (.seq
 (.reg [iq 14 (.mv (.s 0)),
 iq 15 (.nilck (.s 14)),
 iq 16 (.faddr 1 (.s 15)),
 iq 17 (.load1 (.s 16)),
 iq 18 (.bin .add (.s 17) (.c (.int .i64 (1)))),
 iq 19 (.nilck (.s 14)),
 iq 20 (.faddr 1 (.s 19)),
 iz (.store 1 (.s 20) (.s 18))])
 (.seq
 (.drw [iq 22 (.mv (.s 0)),
 iq 23 (.nilck (.s 22)),
 iq 24 (.faddr 0 (.s 23)),
 iq 25 (.load1 (.s 24)),
 iq 26 (.faddr 1 (.s 4)),
 iq 27 (.load1 (.s 26)),
 iq 28 (.lookup (.one .s) (.agg [(.int .i64 (0)), (ofL []), .snil, .snil]) true (.s 25) (.s 27)),
 iq 21 (.mv (.s 28)),
 iq 29 (.ext 0 (.s 21)),
 iq 30 (.ext 1 (.s 21)),
 iq 7 (.alloc [(.int .i64 (0)), (ofL []), .snil, .snil]),
 iz (.store 4 (.s 7) (.s 29)),
 iq 8 (.mv (.s 30))] [])
 (.seq
 (.reg [iq 31 (.faddr 0 (.s 4)),
 iq 32 (.load1 (.s 31)),
 iq 33 (.eq (.one .i) false (.s 32) (.c (.int .i64 (7)))),
 iq 34 (.mv (.s 33)),
 ig 35 34 false (.faddr 0 (.s 4)),
 ig 36 34 false (.load1 (.s 35)),
 ig 37 34 false (.eq (.one .i) false (.s 36) (.c (.int .i64 (8)))),
 iq 38 (.pick (.s 34) (.c (.bool true)) (.s 37)),
 iq 9 (.mv (.s 38))])
 (.seqj [0, 2, 4]
 (.block 0
 (.seq
 (.reg [iq 40 (.mv (.s 0)),
 iq 41 (.nilck (.s 40)),
 iq 42 (.faddr 1 (.s 41)),
 iq 43 (.load1 (.s 42)),
 iq 44 (.bin .gtr (.s 43) (.c (.int .i64 (400)))),
 iq 39 (.mv (.s 44))])
 (.cond (.s 39)
 (.seq
 (.reg [iq 6 (.mv (.c (.int .i64 (3))))])
 .ret)
 (.seq
 (.reg [iq 46 (.mv (.s 2)),
 iq 47 (.bin .gtr (.s 46) (.c (.int .i64 (12)))),
 iq 45 (.mv (.s 47))])
 (.cond (.s 45)
 (.seq
 (.reg [iq 6 (.mv (.c (.int .i64 (13))))])
 .ret)
 (.seq
 (.reg [iq 49 (.faddr 0 (.s 4)),
 iq 50 (.load1 (.s 49)),
 iq 51 (.bin .lss (.s 50) (.c (.int .i64 (1)))),
 iq 52 (.mv (.s 51)),
 ig 53 52 false (.faddr 0 (.s 4)),
 ig 54 52 false (.load1 (.s 53)),
 ig 55 52 false (.bin .gtr (.s 54) (.c (.int .i64 (9)))),
 iq 56 (.pick (.s 52) (.c (.bool true)) (.s 55)),
 iq 48 (.mv (.s 56))])
 (.cond (.s 48)
 (.seq
 (.reg [iq 6 (.mv (.c (.int .i64 (1))))])
 .ret)
 (.seq
 (.drw [iq 58 (.faddr 3 (.s 4)),
 iq 59 (.load1 (.s 58)),
 iq 60 (.lenL (.s 59)),
 iq 61 (.loadn 4 (.s 4)),
 ⟨(some 62), (.call 62 [(.s 61)]), none, (some [58])⟩,
 iq 63 (.eq (.one .i) true (.s 60) (.s 62)),
 iq 64 (.mv (.s 63)),
 ig 65 64 false (.faddr 1 (.s 4)),
 ig 66 64 false (.load1 (.s 65)),
 ig 67 64 false (.eq (.one .s) true (.s 66) (.c (ofL []))),
 ig 68 64 false (.mv (.s 67)),
 ig 69 68 true (.faddr 0 (.s 4)),
 ig 70 68 true (.load1 (.s 69)),
 ig 71 68 true (.eq (.one .i) true (.s 70) (.c (.int .i64 (9)))),
 ig 72 64 false (.pick (.s 68) (.s 71) (.c (.bool false))),
 iq 73 (.pick (.s 64) (.c (.bool true)) (.s 72)),
 iq 74 (.mv (.s 73)),
 ig 75 74 false (.faddr 2 (.s 4)),
 ig 76 74 false (.load1 (.s 75)),
 ig 77 74 false (.lenL (.s 76)),
 ig 78 74 false (.bin .gtr (.s 77) (.c (.int .i64 (0)))),
 ig 79 74 false (.mv (.s 78)),
 ig 80 79 true (.mv (.s 9)),
 ig 81 79 true (.not (.s 80)),
 ig 82 74 false (.pick (.s 79) (.s 81) (.c (.bool false))),
 iq 83 (.pick (.s 74) (.c (.bool true)) (.s 82)),
 iq 57 (.mv (.s 83))] [])
 (.cond (.s 57)
 (.seq
 (.reg [iq 6 (.mv (.c (.int .i64 (12))))])
 .ret)
 (.seq
 (.reg [iq 85 (.faddr 0 (.s 4)),
 iq 86 (.load1 (.s 85)),
 iq 87 (.eq (.one .i) false (.s 86) (.c (.int .i64 (9)))),
 iq 88 (.mv (.s 87)),
 ig 89 88 true (.mv (.s 8)),
 ig 90 88 true (.not (.s 89)),
 iq 91 (.pick (.s 88) (.s 90) (.c (.bool false))),
 iq 84 (.mv (.s 91))])
 (.cond (.s 84)
 (.seq
 (.reg [iq 6 (.mv (.c (.int .i64 (15))))])
 .ret)
 .skip)))))))))))
 (.seqj [0, 2, 4]
 (.seq
 (.reg [iq 92 (.loadn 4 (.s 4)),
 iq 93 (.call 63 [(.s 92)]),
 iq 10 (.mv (.s 93))])
 (.seq
 (.reg [iq 94 (.mv (.s 10)),
 iq 95 (.eq (.one .i) true (.s 94) (.c (.int .i64 (0))))])
 (.cond (.s 95)
 (.seq
 (.reg [iq 96 (.mv (.s 10)),
 iq 6 (.mv (.s 96))])
 .ret)
 .skip)))
 (.seqj []
 (.seq
 (.reg [iq 97 (.faddr 3 (.s 4)),
 iq 98 (.load1 (.s 97)),
 iq 99 (.lenL (.s 98)),
 iq 100 (.mv (.c (.int .i64 (0))))])
 (.block 1
 (.loop [0, 2, 98, 99, 100]
 (.seq
 (.reg [iq 101 (.bin .lss (.s 100) (.s 99))])
 (.seqj [0, 2, 98, 99, 100]
 (.cond (.s 101)
 .skip
 (.exit 1))
 (.seqj [0, 2, 98, 99, 100]
 (.block 2
 (.seq
 (.reg [iq 102 (.iaddrS 4 (.s 98) (.s 100)),
 iq 103 (.loadn 4 (.s 102)),
 iq 12 (.alloc [(.int .i64 (0)), (ofL []), .snil, .snil]),
 iz (.store 4 (.s 12) (.s 103))])
 (.seq
 (.reg [iq 104 (.mv (.s 0)),
 iq 105 (.loadn 4 (.s 12)),
 iq 106 (.mv (.s 2)),
 iq 107 (.bin .add (.s 106) (.c (.int .i64 (1)))),
 iq 108 (.call 36 [(.s 104), (.s 105), (.s 107)]),
 iq 13 (.mv (.s 108))])
 (.seq
 (.reg [iq 109 (.mv (.s 13)),
 iq 110 (.eq (.one .i) true (.s 109) (.c (.int .i64 (0))))])
 (.cond (.s 110)
 (.seq
 (.reg [iq 111 (.mv (.s 13)),
 iq 6 (.mv (.s 111))])
 .ret)
 .skip)))))
 (.reg [iq 112 (.bin .add (.s 100) (.c (.int .i64 (1)))),
 iq 100 (.mv (.s 112))])))))))
 (.seq
 (.reg [iq 6 (.mv (.c (.int .i64 (0))))])
 .ret)))))))) }
theorem cf36_ok : compFn Try.prog Try.f36 [[0, 2, 4], [0, 2, 4], [], [0, 2, 98, 99, 100], [0, 2, 98, 99, 100], [0, 2, 98, 99, 100]] = some cf_shape_looker_may := by kernel_rfl
/- sprue/shape.kids -/
def cf_shape_kids : Eva.Fn := { ntmps := 15, res := [(.s 2)], body :=
 (.seq
 (.reg [iq 1 (.box (.s 0)),
 iq 2 (.mv (.c (.int .i64 (0))))])
 (.seqj []
 (.seq
 (.reg [iq 3 (.faddr 0 (.s 1)),
 iq 4 (.load1 (.s 3))])
 (.block 0
 (.seqj [1, 4, 5]
 (.seq
 (.reg [iq 6 (.eq (.one .i) false (.s 4) (.c (.int .i64 (4)))),
 iq 5 (.mv (.s 6))])
 (.cond (.s 5)
 .skip
 (.seq
 (.reg [iq 7 (.eq (.one .i) false (.s 4) (.c (.int .i64 (5)))),
 iq 5 (.mv (.s 7))])
 (.cond (.s 5)
 .skip
 (.reg [iq 8 (.eq (.one .i) false (.s 4) (.c (.int .i64 (6)))),
 iq 5 (.mv (.s 8))])))))
 (.cond (.s 5)
 (.seq
 (.reg [iq 2 (.mv (.c (.int .i64 (1))))])
 .ret)
 (.seqj [1, 9]
 (.seq
 (.reg [iq 10 (.eq (.one .i) false (.s 4) (.c (.int .i64 (7)))),
 iq 9 (.mv (.s 10))])
 (.cond (.s 9)
 .skip
 (.reg [iq 11 (.eq (.one .i) false (.s 4) (.c (.int .i64 (8)))),
 iq 9 (.mv (.s 11))])))
 (.cond (.s 9)
 (.seq
 (.reg [iq 12 (.faddr 2 (.s 1)),
 iq 13 (.load1 (.s 12)),
 iq 14 (.lenL (.s 13)),
 iq 2 (.mv (.s 14))])
 .ret)
 .skip))))))
 (.seq
 (.reg [iq 2 (.mv (.c (.int .i64 (0))))])
 .ret))) }
theorem cf62_ok : compFn Try.prog Try.f62 [[], [1, 4, 5], [1, 9]] = some cf_shape_kids := by kernel_rfl
/- sprue/shape.fields -/
def cf_shape_fields : Eva.Fn := { ntmps := 44, res := [(.s 2)], body :=
 (.seq
 (.reg [iq 1 (.box (.s 0)),
 iq 2 (.mv (.c (.int .i64 (0))))])
 (.seqj [1]
 (.seq
 (.reg [iq 5 (.faddr 2 (.s 1)),
 iq 6 (.load1 (.s 5)),
 iq 7 (.lenL (.s 6)),
 iq 8 (.bin .gtr (.s 7) (.c (.int .i64 (8))))])
 (.cond (.s 8)
 (.seq
 (.reg [iq 2 (.mv (.c (.int .i64 (3))))])
 .ret)
 .skip))
 (.seqj [1]
 (.seq
 (.reg [iq 9 (.faddr 2 (.s 1)),
 iq 10 (.load1 (.s 9)),
 iq 11 (.lenL (.s 10)),
 iq 12 (.mv (.c (.int .i64 (0))))])
 (.block 0
 (.loop [1, 10, 11, 12]
 (.seq
 (.reg [iq 13 (.bin .lss (.s 12) (.s 11))])
 (.seqj [1, 10, 11, 12]
 (.cond (.s 13)
 .skip
 (.exit 0))
 (.seqj [1, 10, 11, 12]
 (.block 1
 (.seq
 (.reg [iq 14 (.mv (.s 12)),
 iq 15 (.iaddrS 1 (.s 10) (.s 12)),
 iq 16 (.load1 (.s 15)),
 iq 3 (.mv (.s 14)),
 iq 4 (.mv (.s 16))])
 (.block 2
 (.seq
 (.reg [iq 18 (.mv (.s 4)),
 iq 19 (.call 50 [(.s 18)]),
 iq 20 (.not (.s 19)),
 iq 17 (.mv (.s 20))])
 (.cond (.s 17)
 (.seq
 (.reg [iq 2 (.mv (.c (.int .i64 (15))))])
 .ret)
 (.seq
 (.reg [iq 22 (.mv (.s 3)),
 iq 23 (.bin .gtr (.s 22) (.c (.int .i64 (0)))),
 iq 24 (.mv (.s 23)),
 ig 25 24 true (.faddr 2 (.s 1)),
 ig 26 24 true (.load1 (.s 25)),
 ig 27 24 true (.mv (.s 3)),
 ig 28 24 true (.bin .sub (.s 27) (.c (.int .i64 (1)))),
 ig 29 24 true (.iaddrS 1 (.s 26) (.s 28)),
 ig 30 24 true (.load1 (.s 29)),
 ig 31 24 true (.mv (.s 4)),
 ig 32 24 true (.bin .geq (.s 30) (.s 31)),
 iq 33 (.pick (.s 24) (.s 32) (.c (.bool false))),
 iq 21 (.mv (.s 33))])
 (.cond (.s 21)
 (.seq
 (.reg [iq 2 (.mv (.c (.int .i64 (6))))])
 .ret)
 .skip)))))))
 (.reg [iq 34 (.bin .add (.s 12) (.c (.int .i64 (1)))),
 iq 12 (.mv (.s 34))])))))))
 (.seqj []
 (.seq
 (.reg [iq 35 (.faddr 0 (.s 1)),
 iq 36 (.load1 (.s 35)),
 iq 37 (.eq (.one .i) false (.s 36) (.c (.int .i64 (8)))),
 iq 38 (.mv (.s 37)),
 ig 39 38 true (.faddr 2 (.s 1)),
 ig 40 38 true (.load1 (.s 39)),
 ig 41 38 true (.lenL (.s 40)),
 ig 42 38 true (.eq (.one .i) false (.s 41) (.c (.int .i64 (0)))),
 iq 43 (.pick (.s 38) (.s 42) (.c (.bool false)))])
 (.cond (.s 43)
 (.seq
 (.reg [iq 2 (.mv (.c (.int .i64 (12))))])
 .ret)
 .skip))
 (.seq
 (.reg [iq 2 (.mv (.c (.int .i64 (0))))])
 .ret))))) }
theorem cf63_ok : compFn Try.prog Try.f63 [[1], [1], [1, 10, 11, 12], [1, 10, 11, 12], [1, 10, 11, 12], []] = some cf_shape_fields := by kernel_rfl
/- (*sprue/shape.looker).sigs -/
def cf_shape_looker_sigs : Eva.Fn := { ntmps := 57, res := [(.s 4)], body :=
 (.seq
 (.reg [iq 4 (.mv (.c (.int .i64 (0))))])
 (.seqj []
 (.seq
 (.reg [iq 8 (.mv (.s 1)),
 iq 9 (.lenL (.s 8)),
 iq 10 (.mv (.c (.int .i64 (0))))])
 (.block 0
 (.loop [0, 1, 8, 9, 10]
 (.seq
 (.reg [iq 11 (.bin .lss (.s 10) (.s 9))])
 (.seqj [0, 1, 8, 9, 10]
 (.cond (.s 11)
 .skip
 (.exit 0))
 (.seqj [0, 1, 8, 9, 10]
 (.block 1
 (.seq
 (.reg [iq 12 (.mv (.s 10)),
 iq 13 (.iaddrS 6 (.s 8) (.s 10)),
 iq 14 (.loadn 6 (.s 13)),
 iq 6 (.alloc [(ofL []), .snil, (.int .i64 (0)), (ofL []), .snil, .snil]),
 iq 5 (.mv (.s 12)),
 iz (.store 6 (.s 6) (.s 14))])
 (.seqj [0, 1, 6, 8, 9, 10]
 (.block 2
 (.seq
 (.reg [iq 16 (.faddr 0 (.s 6)),
 iq 17 (.load1 (.s 16)),
 iq 18 (.call 50 [(.s 17)]),
 iq 19 (.not (.s 18)),
 iq 20 (.mv (.s 19)),
 ig 21 20 false (.faddr 0 (.s 6)),
 ig 22 20 false (.load1 (.s 21)),
 ig 23 20 false (.call 26 [(.s 22)]),
 iq 24 (.pick (.s 20) (.c (.bool true)) (.s 23)),
 iq 15 (.mv (.s 24))])
 (.cond (.s 15)
 (.seq
 (.reg [iq 4 (.mv (.c (.int .i64 (15))))])
 .ret)
 (.seq
 (.drw [iq 26 (.mv (.s 5)),
 iq 27 (.bin .gtr (.s 26) (.c (.int .i64 (0)))),
 iq 28 (.mv (.s 27)),
 ig 29 28 true (.mv (.s 1)),
 ig 30 28 true (.mv (.s 5)),
 ig 31 28 true (.bin .sub (.s 30) (.c (.int .i64 (1)))),
 ig 32 28 true (.iaddrS 6 (.s 29) (.s 31)),
 ig 33 28 true (.faddr 0 (.s 32)),
 ig 34 28 true (.load1 (.s 33)),
 ig 35 28 true (.faddr 0 (.s 6)),
 ig 36 28 true (.load1 (.s 35)),
 ig 37 28 true (.bin .geq (.s 34) (.s 36)),
 iq 38 (.pick (.s 28) (.s 37) (.c (.bool false))),
 iq 25 (.mv (.s 38))] [])
 (.cond (.s 25)
 (.seq
 (.reg [iq 4 (.mv (.c (.int .i64 (6))))])
 .ret)
 (.seq
 (.reg [iq 40 (.faddr 1 (.s 6)),
 iq 41 (.load1 (.s 40)),
 iq 42 (.lenL (.s 41)),
 iq 43 (.bin .gtr (.s 42) (.c (.int .i64 (4)))),
 iq 39 (.mv (.s 43))])
 (.cond (.s 39)
 (.seq
 (.reg [iq 4 (.mv (.c (.int .i64 (18))))])
 .ret)
 .skip)))))))
 (.seq
 (.drw [iq 44 (.mv (.s 0)),
 iq 45 (.faddr 1 (.s 6)),
 iq 46 (.load1 (.s 45)),
 iq 47 (.call 22 [(.s 46)]),
 iq 48 (.faddr 2 (.s 6)),
 iq 49 (.loadn 4 (.s 48)),
 iq 50 (.bsl 4 1 [(.int .i64 (0)), (ofL []), .snil, .snil] [(0, 4, (.s 49))]),
 iq 51 (.app 4 (.s 47) (.s 50)),
 ⟨(some 52), (.call 64 [(.s 44), (.s 51)]), none, (some [])⟩,
 iq 7 (.mv (.s 52))] [])
 (.seq
 (.reg [iq 53 (.mv (.s 7)),
 iq 54 (.eq (.one .i) true (.s 53) (.c (.int .i64 (0))))])
 (.cond (.s 54)
 (.seq
 (.reg [iq 55 (.mv (.s 7)),
 iq 4 (.mv (.s 55))])
 .ret)
 .skip))))))
 (.reg [iq 56 (.bin .add (.s 10) (.c (.int .i64 (1)))),
 iq 10 (.mv (.s 56))])))))))
 (.seq
 (.reg [iq 4 (.mv (.c (.int .i64 (0))))])
 .ret))) }
theorem cf37_ok : compFn Try.prog Try.f37 [[], [0, 1, 8, 9, 10], [0, 1, 8, 9, 10], [0, 1, 8, 9, 10], [0, 1, 6, 8, 9, 10]] = some cf_shape_looker_sigs := by kernel_rfl
/- sprue/shape.Builtin -/
def cf_shape_Builtin : Eva.Fn := { ntmps := 11, res := [(.s 2)], body :=
 (.seq
 (.reg [iq 2 (.mv (.c (.bool false)))])
 (.seq
 (.reg [iq 3 (.mv (.s 0)),
 iq 4 (.call 50 [(.s 3)]),
 iq 5 (.mv (.s 4)),
 ig 6 5 true (.mv (.s 0)),
 ig 7 5 true (.bin .add (.c (ofL [32])) (.s 6)),
 ig 8 5 true (.bin .add (.s 7) (.c (ofL [32]))),
 ig 9 5 true (.call 51 [(.c (ofL [32, 108, 101, 110, 32, 110, 111, 116, 32, 97, 110, 100, 32, 111, 114, 32, 101, 113, 32, 108, 116, 32, 97, 100, 100, 32, 115, 117, 98, 32, 109, 117, 108, 32, 115, 104, 108, 32, 115, 104, 114, 32, 105, 56, 32, 105, 49, 54, 32, 105, 51, 50, 32, 117, 56, 32, 117, 49, 54, 32, 117, 51, 50, 32, 99, 97, 116, 32, 116, 101, 120, 116, 32, 97, 116, 32, 103, 101, 116, 32, 104, 97, 115, 32, 111, 114, 101, 108, 115, 101, 32])), (.s 8)]),
 iq 10 (.pick (.s 5) (.s 9) (.c (.bool false))),
 iq 2 (.mv (.s 10))])
 .ret)) }
theorem cf26_ok : compFn Try.prog Try.f26 [] = some cf_shape_Builtin := by kernel_rfl
/- slices.Clone(()sprue/api.Type,sprue/api.Type) -/
def cf_slices_Clone_Type : Eva.Fn := { ntmps := 8, res := [(.s 2)], body :=
 (.seq
 (.reg [iq 2 (.mv (.c .snil))])
 (.seqj [0]
 (.seq
 (.reg [iq 3 (.mv (.s 0)),
 iq 4 (.eq (.one .l) false (.s 3) (.c .snil))])
 (.cond (.s 4)
 (.seq
 (.reg [iq 2 (.mv (.c .snil))])
 .ret)
 .skip))
 (.seq
 (.reg [iq 5 (.bsl 4 0 [] []),
 iq 6 (.mv (.s 0)),
 iq 7 (.app 4 (.s 5) (.s 6)),
 iq 2 (.mv (.s 7))])
 .ret))) }
theorem cf22_ok : compFn Try.prog Try.f22 [[0]] = some cf_slices_Clone_Type := by kernel_rfl
/- (*sprue/shape.looker).all -/
def cf_shape_looker_all : Eva.Fn := { ntmps := 21, res := [(.s 4)], body :=
 (.seq
 (.reg [iq 4 (.mv (.c (.int .i64 (0))))])
 (.seqj []
 (.seq
 (.reg [iq 8 (.mv (.s 1)),
 iq 9 (.lenL (.s 8)),
 iq 10 (.mv (.c (.int .i64 (0))))])
 (.block 0
 (.loop [0, 8, 9, 10]
 (.seq
 (.reg [iq 11 (.bin .lss (.s 10) (.s 9))])
 (.seqj [0, 8, 9, 10]
 (.cond (.s 11)
 .skip
 (.exit 0))
 (.seqj [0, 8, 9, 10]
 (.block 1
 (.seq
 (.reg [iq 12 (.iaddrS 4 (.s 8) (.s 10)),
 iq 13 (.loadn 4 (.s 12)),
 iq 6 (.alloc [(.int .i64 (0)), (ofL []), .snil, .snil]),
 iz (.store 4 (.s 6) (.s 13))])
 (.seq
 (.reg [iq 14 (.mv (.s 0)),
 iq 15 (.loadn 4 (.s 6)),
 iq 16 (.call 36 [(.s 14), (.s 15), (.c (.int .i64 (1)))]),
 iq 7 (.mv (.s 16))])
 (.seq
 (.reg [iq 17 (.mv (.s 7)),
 iq 18 (.eq (.one .i) true (.s 17) (.c (.int .i64 (0))))])
 (.cond (.s 18)
 (.seq
 (.reg [iq 19 (.mv (.s 7)),
 iq 4 (.mv (.s 19))])
 .ret)
 .skip)))))
 (.reg [iq 20 (.bin .add (.s 10) (.c (.int .i64 (1)))),
 iq 10 (.mv (.s 20))])))))))
 (.seq
 (.reg [iq 4 (.mv (.c (.int .i64 (0))))])
 .ret))) }
theorem cf64_ok : compFn Try.prog Try.f64 [[], [0, 8, 9, 10], [0, 8, 9, 10], [0, 8, 9, 10]] = some cf_shape_looker_all := by kernel_rfl
/- sprue/shape.Finite -/
def cf_shape_Finite : Eva.Fn := { ntmps := 66, res := [(.s 4)], body :=
 (.seq
 (.reg [iq 2 (.box (.s 0)),
 iq 3 (.box (.s 1)),
 iq 4 (.mv (.c (.bool false)))])
 (.seq
 (.reg [iq 11 (.loadn 6 (.s 2)),
 iq 12 (.call 35 [(.s 11)]),
 iq 13 (.build [.mnil, (.int .i64 (0))] [(0, 1, (.s 12))]),
 iq 14 (.box (.s 13)),
 iq 5 (.mv (.s 14))])
 (.seqj [2, 3, 5]
 (.seq
 (.reg [iq 15 (.faddr 4 (.s 2)),
 iq 16 (.load1 (.s 15)),
 iq 17 (.lenL (.s 16)),
 iq 18 (.mv (.c (.int .i64 (0))))])
 (.block 0
 (.loop [2, 3, 5, 16, 17, 18]
 (.seq
 (.reg [iq 19 (.bin .lss (.s 18) (.s 17))])
 (.seqj [2, 3, 5, 16, 17, 18]
 (.cond (.s 19)
 .skip
 (.exit 0))
 (.seqj [2, 3, 5, 16, 17, 18]
 (.block 1
 (.seq
 (.reg [iq 20 (.iaddrS 5 (.s 16) (.s 18)),
 iq 21 (.loadn 5 (.s 20)),
 iq 7 (.alloc [(ofL []), (.int .i64 (0)), (ofL []), .snil, .snil]),
 iz (.store 5 (.s 7) (.s 21))])
 (.seq
 (.reg [iq 22 (.mv (.s 5)),
 iq 23 (.faddr 1 (.s 7)),
 iq 24 (.loadn 4 (.s 23)),
 iq 25 (.call 36 [(.s 22), (.s 24), (.c (.int .i64 (1)))]),
 iq 26 (.eq (.one .i) true (.s 25) (.c (.int .i64 (0))))])
 (.cond (.s 26)
 (.seq
 (.reg [iq 4 (.mv (.c (.bool false)))])
 .ret)
 .skip))))
 (.reg [iq 27 (.bin .add (.s 18) (.c (.int .i64 (1)))),
 iq 18 (.mv (.s 27))])))))))
 (.seq
 (.reg [iq 28 (.mv (.s 5)),
 iq 29 (.nilck (.s 28)),
 iq 30 (.faddr 1 (.s 29)),
 iz (.store 1 (.s 30) (.c (.int .i64 (0))))])
 (.seqj [2, 3]
 (.seq
 (.reg [iq 31 (.mv (.s 5)),
 iq 32 (.loadn 4 (.s 3)),
 iq 33 (.call 36 [(.s 31), (.s 32), (.c (.int .i64 (1)))]),
 iq 34 (.eq (.one .i) true (.s 33) (.c (.int .i64 (0))))])
 (.cond (.s 34)
 (.seq
 (.reg [iq 4 (.mv (.c (.bool false)))])
 .ret)
 .skip))
 (.seq
 (.reg [⟨(some 35), .mkmap, none, none⟩,
 iq 8 (.mv (.s 35))])
 (.seqj [3, 8]
 (.seq
 (.reg [iq 36 (.faddr 4 (.s 2)),
 iq 37 (.load1 (.s 36)),
 iq 38 (.lenL (.s 37)),
 iq 39 (.mv (.c (.int .i64 (0))))])
 (.block 2
 (.loop [2, 3, 8, 38, 39]
 (.seq
 (.reg [iq 40 (.bin .lss (.s 39) (.s 38))])
 (.seqj [2, 3, 8, 38, 39]
 (.cond (.s 40)
 .skip
 (.exit 2))
 (.seqj [2, 3, 8, 38, 39]
 (.block 3
 (.seq
 (.reg [iq 41 (.faddr 4 (.s 2)),
 iq 42 (.load1 (.s 41)),
 iq 43 (.lenL (.s 42)),
 iq 44 (.mv (.c (.int .i64 (0))))])
 (.block 4
 (.loop [2, 3, 8, 38, 39, 42, 43, 44]
 (.seq
 (.reg [iq 45 (.bin .lss (.s 44) (.s 43))])
 (.seqj [2, 3, 8, 38, 39, 42, 43, 44]
 (.cond (.s 45)
 .skip
 (.exit 4))
 (.seqj [2, 3, 8, 38, 39, 42, 43, 44]
 (.block 5
 (.seq
 (.reg [iq 46 (.iaddrS 5 (.s 42) (.s 44)),
 iq 47 (.loadn 5 (.s 46)),
 iq 10 (.alloc [(ofL []), (.int .i64 (0)), (ofL []), .snil, .snil]),
 iz (.store 5 (.s 10) (.s 47))])
 (.drw [iq 48 (.mv (.s 8)),
 iq 49 (.faddr 0 (.s 10)),
 iq 50 (.load1 (.s 49)),
 iq 51 (.mv (.s 8)),
 iq 52 (.faddr 0 (.s 10)),
 iq 53 (.load1 (.s 52)),
 iq 54 (.lookup (.one .s) (.bool false) false (.s 51) (.s 53)),
 iq 55 (.mv (.s 54)),
 ig 56 55 false (.faddr 1 (.s 10)),
 ig 57 55 false (.loadn 4 (.s 56)),
 ig 58 55 false (.mv (.s 8)),
 ⟨(some 59), (.call 65 [(.s 57), (.s 58), (.c (.int .i64 (1)))]), (some (55, false)), (some [49])⟩,
 iq 60 (.pick (.s 55) (.c (.bool true)) (.s 59)),
 iz (.mupd (.one .s) (.s 48) (.s 50) (.s 60))] [])))
 (.reg [iq 61 (.bin .add (.s 44) (.c (.int .i64 (1)))),
 iq 44 (.mv (.s 61))]))))))))
 (.reg [iq 62 (.bin .add (.s 39) (.c (.int .i64 (1)))),
 iq 39 (.mv (.s 62))])))))))
 (.seq
 (.reg [iq 63 (.loadn 4 (.s 3)),
 iq 64 (.mv (.s 8)),
 iq 65 (.call 65 [(.s 63), (.s 64), (.c (.int .i64 (1)))]),
 iq 4 (.mv (.s 65))])
 .ret)))))))) }
theorem cf38_ok : compFn Try.prog Try.f38 [[2, 3, 5], [2, 3, 5, 16, 17, 18], [2, 3, 5, 16, 17, 18], [2, 3, 5, 16, 17, 18], [2, 3], [3, 8], [2, 3, 8, 38, 39], [2, 3, 8, 38, 39], [2, 3, 8, 38, 39], [2, 3, 8, 38, 39, 42, 43, 44], [2, 3, 8, 38, 39, 42, 43, 44], [2, 3, 8, 38, 39, 42, 43, 44]] = some cf_shape_Finite := by kernel_rfl
/- sprue/shape.ends -/
def cf_shape_ends : Eva.Fn := { ntmps := 32, res := [(.s 6)], body :=
 (.seq
 (.reg [iq 3 (.box (.s 0)),
 iq 4 (.box (.s 1)),
 iq 5 (.box (.s 2)),
 iq 6 (.mv (.c (.bool false)))])
 (.seqj [3, 4, 5]
 (.seq
 (.reg [iq 8 (.load1 (.s 5)),
 iq 9 (.bin .gtr (.s 8) (.c (.int .i64 (12))))])
 (.cond (.s 9)
 (.seq
 (.reg [iq 6 (.mv (.c (.bool false)))])
 .ret)
 .skip))
 (.seq
 (.reg [iq 10 (.mkfn 79 [] [(.s 4), (.s 5)]),
 iq 7 (.alloc [.fnil]),
 iz (.store 1 (.s 7) (.s 10))])
 (.seqj []
 (.seq
 (.reg [iq 11 (.faddr 0 (.s 3)),
 iq 12 (.load1 (.s 11))])
 (.block 0
 (.seq
 (.reg [iq 14 (.eq (.one .i) false (.s 12) (.c (.int .i64 (9)))),
 iq 13 (.mv (.s 14))])
 (.cond (.s 13)
 (.seq
 (.reg [iq 15 (.load1 (.s 4)),
 iq 16 (.faddr 1 (.s 3)),
 iq 17 (.load1 (.s 16)),
 iq 18 (.lookup (.one .s) (.bool false) false (.s 15) (.s 17)),
 iq 6 (.mv (.s 18))])
 .ret)
 (.seq
 (.reg [iq 20 (.eq (.one .i) false (.s 12) (.c (.int .i64 (8)))),
 iq 19 (.mv (.s 20))])
 (.cond (.s 19)
 (.seq
 (.reg [iq 21 (.faddr 3 (.s 3)),
 iq 22 (.load1 (.s 21)),
 iq 23 (.load1 (.s 7)),
 iq 24 (.call 39 [(.s 22), (.s 23)]),
 iq 6 (.mv (.s 24))])
 .ret)
 (.seq
 (.reg [iq 26 (.eq (.one .i) false (.s 12) (.c (.int .i64 (7)))),
 iq 25 (.mv (.s 26))])
 (.cond (.s 25)
 (.seq
 (.reg [iq 27 (.faddr 3 (.s 3)),
 iq 28 (.load1 (.s 27)),
 iq 29 (.mkfn 80 [] [(.s 7)]),
 iq 30 (.call 39 [(.s 28), (.s 29)]),
 iq 31 (.not (.s 30)),
 iq 6 (.mv (.s 31))])
 .ret)
 .skip))))))))
 (.seq
 (.reg [iq 6 (.mv (.c (.bool true)))])
 .ret))))) }
theorem cf65_ok : compFn Try.prog Try.f65 [[3, 4, 5], []] = some cf_shape_ends := by kernel_rfl
/- sprue/shape.ends$1 -/
def cf_shape_ends_1 : Eva.Fn := { ntmps := 10, res := [(.s 4)], body :=
 (.seq
 (.reg [iq 3 (.box (.s 0)),
 iq 4 (.mv (.c (.bool false)))])
 (.seq
 (.reg [iq 5 (.loadn 4 (.s 3)),
 iq 6 (.load1 (.s 1)),
 iq 7 (.load1 (.s 2)),
 iq 8 (.bin .add (.s 7) (.c (.int .i64 (1)))),
 iq 9 (.call 65 [(.s 5), (.s 6), (.s 8)]),
 iq 4 (.mv (.s 9))])
 .ret)) }
theorem cf79_ok : compFn Try.prog Try.f79 [] = some cf_shape_ends_1 := by kernel_rfl
/- slices.ContainsFunc(()sprue/api.Type,sprue/api.Type) -/
def cf_slices_ContainsFunc_Type : Eva.Fn := { ntmps := 9, res := [(.s 4)], body :=
 (.seq
 (.reg [iq 4 (.mv (.c (.bool false)))])
 (.seq
 (.reg [iq 5 (.mv (.s 0)),
 iq 6 (.mv (.s 1)),
 iq 7 (.call 66 [(.s 5), (.s 6)]),
 iq 8 (.bin .geq (.s 7) (.c (.int .i64 (0)))),
 iq 4 (.mv (.s 8))])
 .ret)) }
theorem cf39_ok : compFn Try.prog Try.f39 [] = some cf_slices_ContainsFunc_Type := by kernel_rfl
/- slices.IndexFunc(()sprue/api.Type,sprue/api.Type) -/
def cf_slices_IndexFunc_Type : Eva.Fn := { ntmps := 19, res := [(.s 4)], body :=
 (.seq
 (.reg [iq 4 (.mv (.c (.int .i64 (0))))])
 (.seqj []
 (.seq
 (.reg [iq 6 (.mv (.s 0)),
 iq 7 (.lenL (.s 6)),
 iq 8 (.mv (.c (.int .i64 (0))))])
 (.block 0
 (.loop [0, 1, 7, 8]
 (.seq
 (.reg [iq 9 (.bin .lss (.s 8) (.s 7))])
 (.seqj [0, 1, 7, 8]
 (.cond (.s 9)
 .skip
 (.exit 0))
 (.seqj [0, 1, 7, 8]
 (.block 1
 (.seq
 (.reg [iq 10 (.mv (.s 8)),
 iq 5 (.mv (.s 10))])
 (.seq
 (.reg [iq 11 (.mv (.s 1)),
 iq 12 (.mv (.s 0)),
 iq 13 (.mv (.s 5)),
 iq 14 (.iaddrS 4 (.s 12) (.s 13)),
 iq 15 (.loadn 4 (.s 14)),
 iq 16 (.callv (.s 11) [(.s 15)])])
 (.cond (.s 16)
 (.seq
 (.reg [iq 17 (.mv (.s 5)),
 iq 4 (.mv (.s 17))])
 .ret)
 .skip))))
 (.reg [iq 18 (.bin .add (.s 8) (.c (.int .i64 (1)))),
 iq 8 (.mv (.s 18))])))))))
 (.seq
 (.reg [iq 4 (.mv (.c (.int .i64 (-1))))])
 .ret))) }
theorem cf66_ok : compFn Try.prog Try.f66 [[], [0, 1, 7, 8], [0, 1, 7, 8], [0, 1, 7, 8]] = some cf_slices_IndexFunc_Type := by kernel_rfl
/- sprue/shape.ends$2 -/
def cf_shape_ends_2 : Eva.Fn := { ntmps := 8, res := [(.s 3)], body :=
 (.seq
 (.reg [iq 2 (.box (.s 0)),
 iq 3 (.mv (.c (.bool false)))])
 (.seq
 (.reg [iq 4 (.load1 (.s 1)),
 iq 5 (.loadn 4 (.s 2)),
 iq 6 (.callv (.s 4) [(.s 5)]),
 iq 7 (.not (.s 6)),
 iq 3 (.mv (.s 7))])
 .ret)) }
theorem cf80_ok : compFn Try.prog Try.f80 [] = some cf_shape_ends_2 := by kernel_rfl
/- sprue/shape.every -/
def cf_shape_every : Eva.Fn := { ntmps := 43, res := [(.s 2)], body :=
 (.seq
 (.reg [iq 1 (.box (.s 0)),
 iq 2 (.mv (.c .snil))])
 (.seq
 (.reg [iq 3 (.mv (.c .snil))])
 (.seqj [1, 3]
 (.seq
 (.reg [iq 8 (.faddr 4 (.s 1)),
 iq 9 (.load1 (.s 8)),
 iq 10 (.lenL (.s 9)),
 iq 11 (.mv (.c (.int .i64 (0))))])
 (.block 0
 (.loop [1, 3, 9, 10, 11]
 (.seq
 (.reg [iq 12 (.bin .lss (.s 11) (.s 10))])
 (.seqj [1, 3, 9, 10, 11]
 (.cond (.s 12)
 .skip
 (.exit 0))
 (.seqj [1, 3, 9, 10, 11]
 (.block 1
 (.seq
 (.reg [iq 13 (.iaddrS 5 (.s 9) (.s 11)),
 iq 14 (.loadn 5 (.s 13)),
 iq 5 (.alloc [(ofL []), (.int .i64 (0)), (ofL []), .snil, .snil]),
 iz (.store 5 (.s 5) (.s 14))])
 (.reg [iq 15 (.mv (.s 3)),
 iq 16 (.faddr 1 (.s 5)),
 iq 17 (.loadn 4 (.s 16)),
 iq 18 (.bsl 4 1 [(.int .i64 (0)), (ofL []), .snil, .snil] [(0, 4, (.s 17))]),
 iq 19 (.app 4 (.s 15) (.s 18)),
 iq 3 (.mv (.s 19))])))
 (.reg [iq 20 (.bin .add (.s 11) (.c (.int .i64 (1)))),
 iq 11 (.mv (.s 20))])))))))
 (.seq
 (.reg [iq 21 (.mv (.s 3)),
 iq 22 (.faddr 0 (.s 1)),
 iq 23 (.loadn 4 (.s 22)),
 iq 24 (.bsl 4 1 [(.int .i64 (0)), (ofL []), .snil, .snil] [(0, 4, (.s 23))]),
 iq 25 (.app 4 (.s 21) (.s 24)),
 iq 3 (.mv (.s 25))])
 (.seqj [3]
 (.seq
 (.reg [iq 26 (.faddr 5 (.s 1)),
 iq 27 (.load1 (.s 26)),
 iq 28 (.lenL (.s 27)),
 iq 29 (.mv (.c (.int .i64 (0))))])
 (.block 2
 (.loop [3, 27, 28, 29]
 (.seq
 (.reg [iq 30 (.bin .lss (.s 29) (.s 28))])
 (.seqj [3, 27, 28, 29]
 (.cond (.s 30)
 .skip
 (.exit 2))
 (.seqj [3, 27, 28, 29]
 (.block 3
 (.seq
 (.reg [iq 31 (.iaddrS 6 (.s 27) (.s 29)),
 iq 32 (.loadn 6 (.s 31)),
 iq 7 (.alloc [(ofL []), .snil, (.int .i64 (0)), (ofL []), .snil, .snil]),
 iz (.store 6 (.s 7) (.s 32))])
 (.drw [iq 33 (.mv (.s 3)),
 iq 34 (.faddr 1 (.s 7)),
 iq 35 (.load1 (.s 34)),
 iq 36 (.app 4 (.s 33) (.s 35)),
 iq 37 (.faddr 2 (.s 7)),
 iq 38 (.loadn 4 (.s 37)),
 iq 39 (.bsl 4 1 [(.int .i64 (0)), (ofL []), .snil, .snil] [(0, 4, (.s 38))]),
 iq 40 (.app 4 (.s 36) (.s 39)),
 iq 3 (.mv (.s 40))] [([33], [37])])))
 (.reg [iq 41 (.bin .add (.s 29) (.c (.int .i64 (1)))),
 iq 29 (.mv (.s 41))])))))))
 (.seq
 (.reg [iq 42 (.mv (.s 3)),
 iq 2 (.mv (.s 42))])
 .ret)))))) }
theorem cf40_ok : compFn Try.prog Try.f40 [[1, 3], [1, 3, 9, 10, 11], [1, 3, 9, 10, 11], [1, 3, 9, 10, 11], [3], [3, 27, 28, 29], [3, 27, 28, 29], [3, 27, 28, 29]] = some cf_shape_every := by kernel_rfl
/- (*sprue/shape.looker).opts -/
def cf_shape_looker_opts : Eva.Fn := { ntmps := 45, res := [(.s 4)], body :=
 (.seq
 (.reg [iq 3 (.box (.s 1)),
 iq 4 (.mv (.c (.bool false)))])
 (.seqj [0, 3]
 (.seq
 (.reg [iq 6 (.faddr 0 (.s 3)),
 iq 7 (.load1 (.s 6)),
 iq 8 (.eq (.one .i) false (.s 7) (.c (.int .i64 (6)))),
 iq 9 (.mv (.s 8)),
 ig 10 9 true (.faddr 3 (.s 3)),
 ig 11 9 true (.load1 (.s 10)),
 ig 12 9 true (.lenL (.s 11)),
 ig 13 9 true (.eq (.one .i) false (.s 12) (.c (.int .i64 (1)))),
 iq 14 (.pick (.s 9) (.s 13) (.c (.bool false)))])
 (.cond (.s 14)
 (.seq
 (.reg [iq 15 (.faddr 3 (.s 3)),
 iq 16 (.load1 (.s 15)),
 iq 17 (.iaddrS 4 (.s 16) (.c (.int .i64 (0)))),
 iq 18 (.loadn 4 (.s 17)),
 iq 5 (.alloc [(.int .i64 (0)), (ofL []), .snil, .snil]),
 iz (.store 4 (.s 5) (.s 18))])
 (.seqj [0, 3, 5]
 (.seq
 (.reg [iq 19 (.mv (.s 0)),
 iq 20 (.nilck (.s 19)),
 iq 21 (.faddr 0 (.s 20)),
 iq 22 (.load1 (.s 21)),
 iq 23 (.rngM (.s 22))])
 (.block 0
 (.loop [0, 3, 5, 23]
 (.seq
 (.reg [iq 24 (.nextM (.s 23)),
 iq 25 (.ext 0 (.s 24))])
 (.seqj [0, 3, 5, 23]
 (.cond (.s 25)
 .skip
 (.exit 0))
 (.block 1
 (.seq
 (.reg [iq 27 (.faddr 0 (.s 5)),
 iq 28 (.load1 (.s 27)),
 iq 29 (.eq (.one .i) false (.s 28) (.c (.int .i64 (9))))])
 (.cond (.s 29)
 (.drw [iq 30 (.mv (.s 0)),
 iq 31 (.nilck (.s 30)),
 iq 32 (.faddr 0 (.s 31)),
 iq 33 (.load1 (.s 32)),
 iq 34 (.faddr 1 (.s 5)),
 iq 35 (.load1 (.s 34)),
 iq 36 (.lookup (.one .s) (.agg [(.int .i64 (0)), (ofL []), .snil, .snil]) false (.s 33) (.s 35)),
 iz (.store 4 (.s 5) (.s 36))] [])
 .skip))))))))
 (.seq
 (.reg [iq 37 (.faddr 0 (.s 5)),
 iq 38 (.load1 (.s 37)),
 iq 39 (.eq (.one .i) false (.s 38) (.c (.int .i64 (6))))])
 (.cond (.s 39)
 (.seq
 (.reg [iq 4 (.mv (.c (.bool true)))])
 .ret)
 .skip))))
 .skip))
 (.seq
 (.reg [iq 40 (.faddr 3 (.s 3)),
 iq 41 (.load1 (.s 40)),
 iq 42 (.mv (.s 0)),
 iq 43 (.mkfn 41 [(.s 42)] []),
 iq 44 (.call 39 [(.s 41), (.s 43)]),
 iq 4 (.mv (.s 44))])
 .ret))) }
theorem cf41_ok : compFn Try.prog Try.f41 [[0, 3], [0, 3, 5], [0, 3, 5, 23], [0, 3, 5, 23]] = some cf_shape_looker_opts := by kernel_rfl
/- (*sprue/cons.Table).Add -/
def cf_cons_Table_Add : Eva.Fn := { ntmps := 12, res := [(.s 4), (.s 5)], body :=
 (.seq
 (.reg [iq 3 (.box (.s 1)),
 iq 4 (.mv (.c (.int .i64 (0)))),
 iq 5 (.mv (.c (.int .i64 (0))))])
 (.seq
 (.reg [iq 6 (.alloc [(.int .i64 (0))]),
 iz (.store 1 (.s 6) (.c (.int .i64 (400))))])
 (.seq
 (.reg [iq 7 (.mv (.s 0)),
 iq 8 (.loadn 4 (.s 3)),
 iq 9 (.call 32 [(.s 7), (.s 8), (.s 6)]),
 iq 10 (.ext 0 (.s 9)),
 iq 11 (.ext 1 (.s 9)),
 iq 4 (.mv (.s 10)),
 iq 5 (.mv (.s 11))])
 .ret))) }
theorem cf15_ok : compFn Try.prog Try.f15 [] = some cf_cons_Table_Add := by kernel_rfl
/- (*sprue/cons.Table).add -/
def cf_cons_Table_add : Eva.Fn := { ntmps := 70, res := [(.s 6), (.s 7)], body :=
 (.seq
 (.reg [iq 4 (.box (.s 1)),
 iq 6 (.mv (.c (.int .i64 (0)))),
 iq 7 (.mv (.c (.int .i64 (0))))])
 (.seq
 (.reg [iq 13 (.mv (.s 2)),
 iq 14 (.nilck (.s 13)),
 iq 15 (.load1 (.s 14)),
 iq 16 (.bin .sub (.s 15) (.c (.int .i64 (1)))),
 iq 17 (.nilck (.s 13)),
 iz (.store 1 (.s 17) (.s 16))])
 (.seqj [0, 2, 4]
 (.seq
 (.reg [iq 18 (.mv (.s 2)),
 iq 19 (.nilck (.s 18)),
 iq 20 (.load1 (.s 19)),
 iq 21 (.bin .lss (.s 20) (.c (.int .i64 (0)))),
 iq 22 (.mv (.s 21)),
 ig 23 22 false (.faddr 3 (.s 4)),
 ig 24 22 false (.load1 (.s 23)),
 ig 25 22 false (.lenL (.s 24)),
 ig 26 22 false (.bin .gtr (.s 25) (.c (.int .i64 (8)))),
 iq 27 (.pick (.s 22) (.c (.bool true)) (.s 26)),
 iq 28 (.mv (.s 27)),
 ig 29 28 false (.faddr 2 (.s 4)),
 ig 30 28 false (.load1 (.s 29)),
 ig 31 28 false (.lenL (.s 30)),
 ig 32 28 false (.bin .gtr (.s 31) (.c (.int .i64 (8)))),
 iq 33 (.pick (.s 28) (.c (.bool true)) (.s 32))])
 (.cond (.s 33)
 (.seq
 (.reg [iq 6 (.mv (.c (.int .i64 (0)))),
 iq 7 (.mv (.c (.int .i64 (20))))])
 .ret)
 .skip))
 (.seq
 (.reg [iq 34 (.faddr 0 (.s 4)),
 iq 35 (.load1 (.s 34)),
 iq 36 (.faddr 1 (.s 4)),
 iq 37 (.load1 (.s 36)),
 iq 38 (.faddr 2 (.s 4)),
 iq 39 (.load1 (.s 38)),
 iq 40 (.build [(.int .i64 (0)), (ofL []), .snil, .snil] [(0, 1, (.s 35)), (1, 1, (.s 37)), (2, 1, (.s 39))]),
 iq 8 (.alloc [(.int .i64 (0)), (ofL []), .snil, .snil]),
 iz (.store 4 (.s 8) (.s 40))])
 (.seqj [0, 8]
 (.seq
 (.reg [iq 41 (.faddr 3 (.s 4)),
 iq 42 (.load1 (.s 41)),
 iq 43 (.lenL (.s 42)),
 iq 44 (.mv (.c (.int .i64 (0))))])
 (.block 0
 (.loop [0, 2, 8, 42, 43, 44]
 (.seq
 (.reg [iq 45 (.bin .lss (.s 44) (.s 43))])
 (.seqj [0, 2, 8, 42, 43, 44]
 (.cond (.s 45)
 .skip
 (.exit 0))
 (.seqj [0, 2, 8, 42, 43, 44]
 (.block 1
 (.seq
 (.reg [iq 46 (.iaddrS 4 (.s 42) (.s 44)),
 iq 47 (.loadn 4 (.s 46)),
 iq 10 (.alloc [(.int .i64 (0)), (ofL []), .snil, .snil]),
 iz (.store 4 (.s 10) (.s 47))])
 (.seq
 (.reg [iq 49 (.mv (.s 0)),
 iq 50 (.loadn 4 (.s 10)),
 iq 51 (.mv (.s 2)),
 iq 52 (.call 32 [(.s 49), (.s 50), (.s 51)]),
 iq 48 (.mv (.s 52)),
 iq 53 (.ext 0 (.s 48)),
 iq 54 (.ext 1 (.s 48)),
 iq 11 (.mv (.s 53)),
 iq 12 (.mv (.s 54))])
 (.seqj [0, 2, 8, 11, 42, 43, 44]
 (.seq
 (.reg [iq 55 (.mv (.s 12)),
 iq 56 (.eq (.one .i) true (.s 55) (.c (.int .i64 (0))))])
 (.cond (.s 56)
 (.seq
 (.reg [iq 57 (.mv (.s 12)),
 iq 6 (.mv (.c (.int .i64 (0)))),
 iq 7 (.mv (.s 57))])
 .ret)
 .skip))
 (.reg [iq 58 (.faddr 3 (.s 8)),
 iq 59 (.load1 (.s 58)),
 iq 60 (.mv (.s 11)),
 iq 61 (.bsl 1 1 [(.int .i64 (0))] [(0, 1, (.s 60))]),
 iq 62 (.app 1 (.s 59) (.s 61)),
 iq 63 (.faddr 3 (.s 8)),
 iz (.store 1 (.s 63) (.s 62))])))))
 (.reg [iq 64 (.bin .add (.s 44) (.c (.int .i64 (1)))),
 iq 44 (.mv (.s 64))])))))))
 (.seq
 (.reg [iq 65 (.mv (.s 0)),
 iq 66 (.loadn 4 (.s 8)),
 iq 67 (.call 61 [(.s 65), (.s 66)]),
 iq 68 (.ext 0 (.s 67)),
 iq 69 (.ext 1 (.s 67)),
 iq 6 (.mv (.s 68)),
 iq 7 (.mv (.s 69))])
 .ret)))))) }
theorem cf32_ok : compFn Try.prog Try.f32 [[0, 2, 4], [0, 8], [0, 2, 8, 42, 43, 44], [0, 2, 8, 42, 43, 44], [0, 2, 8, 42, 43, 44], [0, 2, 8, 11, 42, 43, 44]] = some cf_cons_Table_add := by kernel_rfl
/- (*sprue/cons.Table).lay -/
def cf_cons_Table_lay : Eva.Fn := { ntmps := 76, res := [(.s 4), (.s 5)], body :=
 (.seq
 (.reg [iq 3 (.box (.s 1)),
 iq 4 (.mv (.c (.int .i64 (0)))),
 iq 5 (.mv (.c (.int .i64 (0))))])
 (.seq
 (.reg [iq 9 (.loadn 4 (.s 3)),
 iq 10 (.call 78 [(.s 9)]),
 iq 6 (.alloc [(.int .i64 (0)), (.int .i64 (0)), (.int .i64 (0)), (ofL []), (ofL []), (ofL []), (ofL []), (ofL []), (ofL []), (ofL []), (ofL []), (ofL []), (.int .i64 (0)), (.int .i64 (0)), (.int .i64 (0)), (.int .i64 (0)), (.int .i64 (0)), (.int .i64 (0)), (.int .i64 (0)), (.int .i64 (0))]),
 iz (.store 20 (.s 6) (.s 10))])
 (.seqj [0, 3, 6]
 (.seq
 (.drw [iq 12 (.mv (.s 0)),
 iq 13 (.nilck (.s 12)),
 iq 14 (.faddr 1 (.s 13)),
 iq 15 (.load1 (.s 14)),
 iq 16 (.loadn 20 (.s 6)),
 iq 17 (.lookup (.many [.i, .i, .i, .s, .s, .s, .s, .s, .s, .s, .s, .s, .i, .i, .i, .i, .i, .i, .i, .i]) (.int .i64 (0)) true (.s 15) (.s 16)),
 iq 11 (.mv (.s 17)),
 iq 18 (.ext 0 (.s 11)),
 iq 19 (.ext 1 (.s 11)),
 iq 7 (.mv (.s 18)),
 iq 8 (.mv (.s 19))] [])
 (.seq
 (.drw [iq 20 (.mv (.s 8)),
 iq 21 (.mv (.s 20)),
 ig 22 21 true (.mv (.s 0)),
 ig 23 21 true (.nilck (.s 22)),
 ig 24 21 true (.faddr 0 (.s 23)),
 ig 25 21 true (.load1 (.s 24)),
 ig 26 21 true (.mv (.s 7)),
 ig 27 21 true (.iaddrS 4 (.s 25) (.s 26)),
 ig 28 21 true (.loadn 4 (.s 27)),
 ig 29 21 true (.call 78 [(.s 28)]),
 ig 30 21 true (.fld 12 (some 8) (.s 29)),
 ig 31 21 true (.faddr 12 (.s 6)),
 ig 32 21 true (.loadn 8 (.s 31)),
 ig 33 21 true (.eq (.many [.i, .i, .i, .i, .i, .i, .i, .i]) false (.s 30) (.s 32)),
 iq 34 (.pick (.s 21) (.s 33) (.c (.bool false)))] [])
 (.cond (.s 34)
 (.seq
 (.reg [iq 35 (.mv (.s 7)),
 iq 4 (.mv (.s 35)),
 iq 5 (.mv (.c (.int .i64 (0))))])
 .ret)
 .skip)))
 (.seqj [0, 3, 6]
 (.seq
 (.reg [iq 36 (.mv (.s 0)),
 iq 37 (.nilck (.s 36)),
 iq 38 (.faddr 0 (.s 37)),
 iq 39 (.load1 (.s 38)),
 iq 40 (.lenL (.s 39)),
 iq 41 (.bin .geq (.s 40) (.c (.int .i64 (120))))])
 (.cond (.s 41)
 (.seq
 (.reg [iq 4 (.mv (.c (.int .i64 (0)))),
 iq 5 (.mv (.c (.int .i64 (20))))])
 .ret)
 .skip))
 (.seq
 (.drw [iq 42 (.faddr 2 (.s 3)),
 iq 43 (.load1 (.s 42)),
 iq 44 (.call 33 [(.s 43)]),
 iq 45 (.faddr 3 (.s 3)),
 iq 46 (.load1 (.s 45)),
 ⟨(some 47), (.call 25 [(.s 46)]), none, (some [])⟩,
 iq 48 (.faddr 2 (.s 3)),
 iz (.store 1 (.s 48) (.s 44)),
 iq 49 (.faddr 3 (.s 3)),
 iz (.store 1 (.s 49) (.s 47))] [])
 (.seq
 (.drw [iq 50 (.mv (.s 0)),
 iq 51 (.nilck (.s 50)),
 iq 52 (.faddr 1 (.s 51)),
 iq 53 (.load1 (.s 52)),
 iq 54 (.loadn 20 (.s 6)),
 iq 55 (.mv (.s 0)),
 iq 56 (.nilck (.s 55)),
 iq 57 (.faddr 0 (.s 56)),
 iq 58 (.load1 (.s 57)),
 iq 59 (.lenL (.s 58)),
 iz (.mupd (.many [.i, .i, .i, .s, .s, .s, .s, .s, .s, .s, .s, .s, .i, .i, .i, .i, .i, .i, .i, .i]) (.s 53) (.s 54) (.s 59))] [])
 (.seq
 (.drw [iq 60 (.mv (.s 0)),
 iq 61 (.mv (.s 0)),
 iq 62 (.nilck (.s 61)),
 iq 63 (.faddr 0 (.s 62)),
 iq 64 (.load1 (.s 63)),
 iq 65 (.loadn 4 (.s 3)),
 iq 66 (.bsl 4 1 [(.int .i64 (0)), (ofL []), .snil, .snil] [(0, 4, (.s 65))]),
 iq 67 (.app 4 (.s 64) (.s 66)),
 iq 68 (.nilck (.s 60)),
 iq 69 (.faddr 0 (.s 68)),
 iz (.store 1 (.s 69) (.s 67))] [])
 (.seq
 (.reg [iq 70 (.mv (.s 0)),
 iq 71 (.nilck (.s 70)),
 iq 72 (.faddr 0 (.s 71)),
 iq 73 (.load1 (.s 72)),
 iq 74 (.lenL (.s 73)),
 iq 75 (.bin .sub (.s 74) (.c (.int .i64 (1)))),
 iq 4 (.mv (.s 75)),
 iq 5 (.mv (.c (.int .i64 (0))))])
 .ret)))))))) }
theorem cf61_ok : compFn Try.prog Try.f61 [[0, 3, 6], [0, 3, 6]] = some cf_cons_Table_lay := by kernel_rfl
/- sprue/cons.keyed -/
def cf_cons_keyed : Eva.Fn := { ntmps := 26, res := [(.cn 2 20)], body :=
 (.seq
 (.reg [iq 1 (.box (.s 0)),
 iq 2 (.alloc [(.int .i64 (0)), (.int .i64 (0)), (.int .i64 (0)), (ofL []), (ofL []), (ofL []), (ofL []), (ofL []), (ofL []), (ofL []), (ofL []), (ofL []), (.int .i64 (0)), (.int .i64 (0)), (.int .i64 (0)), (.int .i64 (0)), (.int .i64 (0)), (.int .i64 (0)), (.int .i64 (0)), (.int .i64 (0))])])
 (.seq
 (.reg [iq 4 (.faddr 0 (.s 1)),
 iq 5 (.load1 (.s 4)),
 iq 6 (.faddr 2 (.s 1)),
 iq 7 (.load1 (.s 6)),
 iq 8 (.lenL (.s 7)),
 iq 9 (.faddr 3 (.s 1)),
 iq 10 (.load1 (.s 9)),
 iq 11 (.lenL (.s 10)),
 iq 12 (.faddr 1 (.s 1)),
 iq 13 (.load1 (.s 12)),
 iq 14 (.build [(.int .i64 (0)), (.int .i64 (0)), (.int .i64 (0)), (ofL []), (ofL []), (ofL []), (ofL []), (ofL []), (ofL []), (ofL []), (ofL []), (ofL []), (.int .i64 (0)), (.int .i64 (0)), (.int .i64 (0)), (.int .i64 (0)), (.int .i64 (0)), (.int .i64 (0)), (.int .i64 (0)), (.int .i64 (0))] [(0, 1, (.s 5)), (1, 1, (.s 8)), (2, 1, (.s 11)), (3, 1, (.s 13))]),
 iq 3 (.alloc [(.int .i64 (0)), (.int .i64 (0)), (.int .i64 (0)), (ofL []), (ofL []), (ofL []), (ofL []), (ofL []), (ofL []), (ofL []), (ofL []), (ofL []), (.int .i64 (0)), (.int .i64 (0)), (.int .i64 (0)), (.int .i64 (0)), (.int .i64 (0)), (.int .i64 (0)), (.int .i64 (0)), (.int .i64 (0))]),
 iz (.store 20 (.s 3) (.s 14))])
 (.seq
 (.drw [iq 15 (.faddr 4 (.s 3)),
 iq 16 (.cutA 8 1 (.s 15) none none none),
 iq 17 (.faddr 2 (.s 1)),
 iq 18 (.load1 (.s 17)),
 iq 19 (.copy 1 (.s 16) (.s 18))] [])
 (.seq
 (.drw [iq 20 (.faddr 12 (.s 3)),
 iq 21 (.cutA 8 1 (.s 20) none none none),
 iq 22 (.faddr 3 (.s 1)),
 iq 23 (.load1 (.s 22)),
 iq 24 (.copy 1 (.s 21) (.s 23))] [])
 (.seq
 (.reg [iq 25 (.loadn 20 (.s 3)),
 iz (.store 20 (.s 2) (.s 25))])
 .ret))))) }
theorem cf78_ok : compFn Try.prog Try.f78 [] = some cf_cons_keyed := by kernel_rfl
/- slices.Clone(()string,string) -/
def cf_slices_Clone_string : Eva.Fn := { ntmps := 8, res := [(.s 2)], body :=
 (.seq
 (.reg [iq 2 (.mv (.c .snil))])
 (.seqj [0]
 (.seq
 (.reg [iq 3 (.mv (.s 0)),
 iq 4 (.eq (.one .l) false (.s 3) (.c .snil))])
 (.cond (.s 4)
 (.seq
 (.reg [iq 2 (.mv (.c .snil))])
 .ret)
 .skip))
 (.seq
 (.reg [iq 5 (.bsl 1 0 [] []),
 iq 6 (.mv (.s 0)),
 iq 7 (.app 1 (.s 5) (.s 6)),
 iq 2 (.mv (.s 7))])
 .ret))) }
theorem cf33_ok : compFn Try.prog Try.f33 [[0]] = some cf_slices_Clone_string := by kernel_rfl
/- slices.Clone(()int,int) -/
def cf_slices_Clone_int : Eva.Fn := { ntmps := 8, res := [(.s 2)], body :=
 (.seq
 (.reg [iq 2 (.mv (.c .snil))])
 (.seqj [0]
 (.seq
 (.reg [iq 3 (.mv (.s 0)),
 iq 4 (.eq (.one .l) false (.s 3) (.c .snil))])
 (.cond (.s 4)
 (.seq
 (.reg [iq 2 (.mv (.c .snil))])
 .ret)
 .skip))
 (.seq
 (.reg [iq 5 (.bsl 1 0 [] []),
 iq 6 (.mv (.s 0)),
 iq 7 (.app 1 (.s 5) (.s 6)),
 iq 2 (.mv (.s 7))])
 .ret))) }
theorem cf25_ok : compFn Try.prog Try.f25 [[0]] = some cf_slices_Clone_int := by kernel_rfl
/- sprue/kinds.Of -/
def cf_kinds_Of : Eva.Fn := { ntmps := 112, res := [(.s 6), (.s 7)], body :=
 (.seq
 (.reg [iq 6 (.mv (.c (.int .i64 (0)))),
 iq 7 (.mv (.c (.int .i64 (0))))])
 (.seq
 (.reg [iq 26 (.mv (.s 0)),
 iq 27 (.mv (.s 1)),
 iq 28 (.call 10 [(.s 26), (.s 27)]),
 iq 25 (.mv (.s 28)),
 iq 29 (.ext 0 (.s 25)),
 iq 30 (.ext 1 (.s 25)),
 iq 31 (.ext 2 (.s 25)),
 iq 8 (.mv (.s 29)),
 iq 9 (.mv (.s 30)),
 iq 10 (.mv (.s 31))])
 (.seq
 (.reg [iq 32 (.mv (.s 8)),
 iq 33 (.lenL (.s 32)),
 iq 11 (.mv (.s 33))])
 (.seqj [0, 1, 2, 8, 9, 11]
 (.block 0
 (.seq
 (.reg [iq 35 (.mv (.s 1)),
 iq 36 (.call 26 [(.s 35)]),
 iq 34 (.mv (.s 36))])
 (.cond (.s 34)
 (.reg [iq 37 (.mv (.s 1)),
 iq 38 (.call 27 [(.s 37)]),
 iq 11 (.mv (.s 38))])
 (.seq
 (.reg [iq 40 (.mv (.s 10)),
 iq 41 (.not (.s 40)),
 iq 39 (.mv (.s 41))])
 (.cond (.s 39)
 (.seq
 (.reg [iq 6 (.mv (.c (.int .i64 (0)))),
 iq 7 (.mv (.c (.int .i64 (15))))])
 .ret)
 .skip)))))
 (.seqj [0, 1, 2, 8, 9]
 (.seq
 (.reg [iq 42 (.mv (.s 2)),
 iq 43 (.lenL (.s 42)),
 iq 44 (.mv (.s 11)),
 iq 45 (.eq (.one .i) true (.s 43) (.s 44))])
 (.cond (.s 45)
 (.seq
 (.reg [iq 6 (.mv (.c (.int .i64 (0)))),
 iq 7 (.mv (.c (.int .i64 (18))))])
 .ret)
 .skip))
 (.seqj [0, 1, 2]
 (.seq
 (.reg [iq 46 (.mv (.s 1)),
 iq 47 (.call 26 [(.s 46)]),
 iq 48 (.not (.s 47))])
 (.cond (.s 48)
 (.seqj [9]
 (.seq
 (.reg [iq 49 (.mv (.s 8)),
 iq 50 (.lenL (.s 49)),
 iq 51 (.mv (.c (.int .i64 (0))))])
 (.block 1
 (.loop [0, 2, 9, 49, 50, 51]
 (.seq
 (.reg [iq 52 (.bin .lss (.s 51) (.s 50))])
 (.seqj [0, 2, 9, 49, 50, 51]
 (.cond (.s 52)
 .skip
 (.exit 1))
 (.seqj [0, 2, 9, 49, 50, 51]
 (.block 2
 (.seq
 (.reg [iq 53 (.mv (.s 51)),
 iq 54 (.iaddrS 1 (.s 49) (.s 51)),
 iq 55 (.load1 (.s 54)),
 iq 12 (.mv (.s 53)),
 iq 13 (.mv (.s 55))])
 (.seq
 (.reg [iq 57 (.mv (.s 0)),
 iq 58 (.mv (.s 2)),
 iq 59 (.mv (.s 12)),
 iq 60 (.iaddrS 1 (.s 58) (.s 59)),
 iq 61 (.load1 (.s 60)),
 iq 62 (.mv (.s 13)),
 iq 63 (.call 28 [(.s 57), (.s 61), (.s 62)]),
 iq 56 (.mv (.s 63)),
 iq 64 (.ext 0 (.s 56)),
 iq 65 (.ext 1 (.s 56)),
 iq 14 (.mv (.s 64)),
 iq 15 (.mv (.s 65))])
 (.seq
 (.reg [iq 66 (.mv (.s 14)),
 iq 67 (.not (.s 66))])
 (.cond (.s 67)
 (.seq
 (.reg [iq 6 (.mv (.c (.int .i64 (0)))),
 iq 7 (.mv (.c (.int .i64 (17))))])
 .ret)
 .skip)))))
 (.reg [iq 68 (.bin .add (.s 51) (.c (.int .i64 (1)))),
 iq 51 (.mv (.s 68))])))))))
 (.seq
 (.reg [iq 69 (.mv (.s 9)),
 iq 6 (.mv (.s 69)),
 iq 7 (.mv (.c (.int .i64 (0))))])
 .ret))
 .skip))
 (.seq
 (.reg [iq 70 (.mv (.s 0)),
 iq 71 (.mv (.s 2)),
 iq 72 (.build [.pnil, .snil, .snil] [(0, 1, (.s 70)), (2, 1, (.s 71))]),
 iq 16 (.alloc [.pnil, .snil, .snil]),
 iz (.store 3 (.s 16) (.s 72))])
 (.seqj [1, 16]
 (.seq
 (.reg [iq 73 (.mv (.s 2)),
 iq 74 (.lenL (.s 73)),
 iq 75 (.mv (.c (.int .i64 (0))))])
 (.block 3
 (.loop [0, 1, 16, 73, 74, 75]
 (.seq
 (.reg [iq 76 (.bin .lss (.s 75) (.s 74))])
 (.seqj [0, 1, 16, 73, 74, 75]
 (.cond (.s 76)
 .skip
 (.exit 3))
 (.seqj [0, 1, 16, 73, 74, 75]
 (.block 4
 (.seq
 (.reg [iq 77 (.iaddrS 1 (.s 73) (.s 75)),
 iq 78 (.load1 (.s 77)),
 iq 18 (.mv (.s 78))])
 (.seq
 (.reg [iq 80 (.mv (.s 0)),
 iq 81 (.mv (.s 18)),
 iq 82 (.call 29 [(.s 80), (.s 81)]),
 iq 79 (.mv (.s 82)),
 iq 83 (.ext 0 (.s 79)),
 iq 84 (.ext 1 (.s 79)),
 iq 19 (.mv (.s 83)),
 iq 20 (.mv (.s 84))])
 (.seq
 (.reg [iq 86 (.mv (.s 0)),
 iq 87 (.mv (.s 19)),
 iq 88 (.call 16 [(.s 86), (.s 87)]),
 iq 85 (.mv (.s 88)),
 iq 89 (.ext 0 (.s 85)),
 iq 90 (.ext 1 (.s 85)),
 iq 21 (.alloc [(.int .i64 (0)), (ofL []), .snil, .snil]),
 iz (.store 4 (.s 21) (.s 89)),
 iq 22 (.mv (.s 90))])
 (.seqj [0, 1, 16, 21, 73, 74, 75]
 (.seq
 (.reg [iq 92 (.mv (.s 0)),
 iq 93 (.mv (.s 18)),
 iq 94 (.call 29 [(.s 92), (.s 93)]),
 iq 91 (.mv (.s 94)),
 iq 95 (.ext 0 (.s 91)),
 iq 96 (.ext 1 (.s 91)),
 iq 23 (.mv (.s 95)),
 iq 24 (.mv (.s 96))])
 (.seq
 (.reg [iq 97 (.mv (.s 24)),
 iq 98 (.not (.s 97))])
 (.cond (.s 98)
 (.reg [iq 99 (.build [(.int .i64 (0)), (ofL []), .snil, .snil] []),
 iz (.store 4 (.s 21) (.s 99))])
 .skip)))
 (.reg [iq 100 (.faddr 1 (.s 16)),
 iq 101 (.load1 (.s 100)),
 iq 102 (.loadn 4 (.s 21)),
 iq 103 (.bsl 4 1 [(.int .i64 (0)), (ofL []), .snil, .snil] [(0, 4, (.s 102))]),
 iq 104 (.app 4 (.s 101) (.s 103)),
 iq 105 (.faddr 1 (.s 16)),
 iz (.store 1 (.s 105) (.s 104))]))))))
 (.reg [iq 106 (.bin .add (.s 75) (.c (.int .i64 (1)))),
 iq 75 (.mv (.s 106))])))))))
 (.seq
 (.reg [iq 107 (.loadn 3 (.s 16)),
 iq 108 (.mv (.s 1)),
 iq 109 (.call 30 [(.s 107), (.s 108)]),
 iq 110 (.ext 0 (.s 109)),
 iq 111 (.ext 1 (.s 109)),
 iq 6 (.mv (.s 110)),
 iq 7 (.mv (.s 111))])
 .ret))))))))) }
theorem cf12_ok : compFn Try.prog Try.f12 [[0, 1, 2, 8, 9, 11], [0, 1, 2, 8, 9], [0, 1, 2], [9], [0, 2, 9, 49, 50, 51], [0, 2, 9, 49, 50, 51], [0, 2, 9, 49, 50, 51], [1, 16], [0, 1, 16, 73, 74, 75], [0, 1, 16, 73, 74, 75], [0, 1, 16, 73, 74, 75], [0, 1, 16, 21, 73, 74, 75]] = some cf_kinds_Of := by kernel_rfl
/- (*sprue/cons.Table).Sig -/
def cf_cons_Table_Sig : Eva.Fn := { ntmps := 32, res := [(.s 4), (.s 5), (.s 6)], body :=
 (.seq
 (.reg [iq 4 (.mv (.c .snil)),
 iq 5 (.mv (.c (.int .i64 (0)))),
 iq 6 (.mv (.c (.bool false)))])
 (.seq
 (.reg [iq 10 (.mv (.s 0)),
 iq 11 (.nilck (.s 10)),
 iq 12 (.faddr 4 (.s 11)),
 iq 13 (.load1 (.s 12)),
 iq 14 (.mv (.s 1)),
 iq 15 (.lookup (.one .s) .snil true (.s 13) (.s 14)),
 iq 9 (.mv (.s 15)),
 iq 16 (.ext 0 (.s 9)),
 iq 17 (.ext 1 (.s 9)),
 iq 7 (.mv (.s 16)),
 iq 8 (.mv (.s 17))])
 (.seqj [7]
 (.seq
 (.reg [iq 18 (.mv (.s 8)),
 iq 19 (.not (.s 18))])
 (.cond (.s 19)
 (.seq
 (.reg [iq 4 (.mv (.c .snil)),
 iq 5 (.mv (.c (.int .i64 (0)))),
 iq 6 (.mv (.c (.bool false)))])
 .ret)
 .skip))
 (.seq
 (.drw [iq 20 (.mv (.s 7)),
 iq 21 (.mv (.s 7)),
 iq 22 (.lenL (.s 21)),
 iq 23 (.bin .sub (.s 22) (.c (.int .i64 (1)))),
 iq 24 (.cutL 1 (.s 20) none (some (.s 23)) none),
 iq 25 (.call 25 [(.s 24)]),
 iq 26 (.mv (.s 7)),
 iq 27 (.mv (.s 7)),
 iq 28 (.lenL (.s 27)),
 iq 29 (.bin .sub (.s 28) (.c (.int .i64 (1)))),
 iq 30 (.iaddrS 1 (.s 26) (.s 29)),
 iq 31 (.load1 (.s 30)),
 iq 4 (.mv (.s 25)),
 iq 5 (.mv (.s 31)),
 iq 6 (.mv (.c (.bool true)))] [])
 .ret)))) }
theorem cf10_ok : compFn Try.prog Try.f10 [[7]] = some cf_cons_Table_Sig := by kernel_rfl
/- sprue/kinds.many -/
def cf_kinds_many : Eva.Fn := { ntmps := 16, res := [(.s 2)], body :=
 (.seq
 (.reg [iq 2 (.mv (.c (.int .i64 (0))))])
 (.seqj []
 (.seq
 (.reg [iq 3 (.mv (.s 0))])
 (.block 0
 (.seqj []
 (.block 2
 (.block 1
 (.seqj []
 (.seqj [3]
 (.seqj [3, 4]
 (.seq
 (.reg [iq 5 (.eq (.one .s) false (.s 3) (.c (ofL [108, 101, 110]))),
 iq 4 (.mv (.s 5))])
 (.cond (.s 4)
 .skip
 (.seq
 (.reg [iq 6 (.eq (.one .s) false (.s 3) (.c (ofL [110, 111, 116]))),
 iq 4 (.mv (.s 6))])
 (.cond (.s 4)
 .skip
 (.seq
 (.reg [iq 7 (.eq (.one .s) false (.s 3) (.c (ofL [116, 101, 120, 116]))),
 iq 4 (.mv (.s 7))])
 (.cond (.s 4)
 .skip
 (.seq
 (.reg [iq 8 (.eq (.one .s) false (.s 3) (.c (ofL [104, 97, 115]))),
 iq 4 (.mv (.s 8))])
 (.cond (.s 4)
 .skip
 (.seq
 (.reg [iq 9 (.eq (.one .s) false (.s 3) (.c (ofL [105, 56]))),
 iq 4 (.mv (.s 9))])
 (.cond (.s 4)
 .skip
 (.seq
 (.reg [iq 10 (.eq (.one .s) false (.s 3) (.c (ofL [105, 49, 54]))),
 iq 4 (.mv (.s 10))])
 (.cond (.s 4)
 .skip
 (.seq
 (.reg [iq 11 (.eq (.one .s) false (.s 3) (.c (ofL [105, 51, 50]))),
 iq 4 (.mv (.s 11))])
 (.cond (.s 4)
 .skip
 (.reg [iq 12 (.eq (.one .s) false (.s 3) (.c (ofL [117, 56]))),
 iq 4 (.mv (.s 12))])))))))))))))))
 (.cond (.s 4)
 (.exit 1)
 .skip))
 (.seqj [13]
 (.seq
 (.reg [iq 14 (.eq (.one .s) false (.s 3) (.c (ofL [117, 49, 54]))),
 iq 13 (.mv (.s 14))])
 (.cond (.s 13)
 .skip
 (.reg [iq 15 (.eq (.one .s) false (.s 3) (.c (ofL [117, 51, 50]))),
 iq 13 (.mv (.s 15))])))
 (.cond (.s 13)
 (.exit 2)
 .skip)))
 (.exit 0))))
 (.seq
 (.seq
 (.reg [iq 2 (.mv (.c (.int .i64 (1))))])
 .ret)
 (.exit 0)))))
 (.seq
 (.reg [iq 2 (.mv (.c (.int .i64 (2))))])
 .ret))) }
theorem cf27_ok : compFn Try.prog Try.f27 [[], [], [], [3], [3, 4], [13]] = some cf_kinds_many := by kernel_rfl
/- sprue/sub.Le -/
def cf_sub_Le : Eva.Fn := { ntmps := 42, res := [(.s 6), (.s 7)], body :=
 (.seq
 (.reg [iq 6 (.mv (.c (.bool false))),
 iq 7 (.mv (.c (.int .i64 (0))))])
 (.seqj [0, 1, 2]
 (.seq
 (.reg [iq 10 (.mv (.s 1)),
 iq 11 (.bin .lss (.s 10) (.c (.int .i64 (0)))),
 iq 12 (.mv (.s 11)),
 ig 13 12 false (.mv (.s 1)),
 ig 14 12 false (.mv (.s 0)),
 ig 15 12 false (.call 52 [(.s 14)]),
 ig 16 12 false (.bin .geq (.s 13) (.s 15)),
 iq 17 (.pick (.s 12) (.c (.bool true)) (.s 16)),
 iq 18 (.mv (.s 17)),
 ig 19 18 false (.mv (.s 2)),
 ig 20 18 false (.bin .lss (.s 19) (.c (.int .i64 (0)))),
 iq 21 (.pick (.s 18) (.c (.bool true)) (.s 20)),
 iq 22 (.mv (.s 21)),
 ig 23 22 false (.mv (.s 2)),
 ig 24 22 false (.mv (.s 0)),
 ig 25 22 false (.call 52 [(.s 24)]),
 ig 26 22 false (.bin .geq (.s 23) (.s 25)),
 iq 27 (.pick (.s 22) (.c (.bool true)) (.s 26))])
 (.cond (.s 27)
 (.seq
 (.reg [iq 6 (.mv (.c (.bool false))),
 iq 7 (.mv (.c (.int .i64 (0))))])
 .ret)
 .skip))
 (.seq
 (.reg [iq 28 (.mv (.s 0)),
 ⟨(some 29), .mkmap, none, none⟩,
 iq 30 (.build [.pnil, .mnil] [(0, 1, (.s 28)), (1, 1, (.s 29))]),
 iq 31 (.box (.s 30)),
 iq 8 (.mv (.s 31))])
 (.seq
 (.reg [iq 32 (.mv (.s 8)),
 iq 33 (.mv (.s 1)),
 iq 34 (.mv (.s 2)),
 iq 35 (.call 53 [(.s 32), (.s 33), (.s 34)]),
 iq 9 (.mv (.s 35))])
 (.seq
 (.reg [iq 36 (.mv (.s 9)),
 iq 37 (.mv (.s 8)),
 iq 38 (.nilck (.s 37)),
 iq 39 (.faddr 1 (.s 38)),
 iq 40 (.load1 (.s 39)),
 iq 41 (.lenM (.s 40)),
 iq 6 (.mv (.s 36)),
 iq 7 (.mv (.s 41))])
 .ret))))) }
theorem cf28_ok : compFn Try.prog Try.f28 [[0, 1, 2]] = some cf_sub_Le := by kernel_rfl
/- (*sprue/cons.Table).Len -/
def cf_cons_Table_Len : Eva.Fn := { ntmps := 8, res := [(.s 2)], body :=
 (.seq
 (.reg [iq 2 (.mv (.c (.int .i64 (0))))])
 (.seq
 (.reg [iq 3 (.mv (.s 0)),
 iq 4 (.nilck (.s 3)),
 iq 5 (.faddr 0 (.s 4)),
 iq 6 (.load1 (.s 5)),
 iq 7 (.lenL (.s 6)),
 iq 2 (.mv (.s 7))])
 .ret)) }
theorem cf52_ok : compFn Try.prog Try.f52 [] = some cf_cons_Table_Len := by kernel_rfl
/- (*sprue/sub.asker).fits -/
def cf_sub_asker_fits : Eva.Fn := { ntmps := 36, res := [(.s 6)], body :=
 (.seq
 (.reg [iq 6 (.mv (.c (.bool false)))])
 (.seq
 (.reg [iq 8 (.mv (.s 1)),
 iq 9 (.mv (.s 2)),
 iq 10 (.build [(.int .i64 (0)), (.int .i64 (0))] [(0, 1, (.s 8)), (1, 1, (.s 9))]),
 iq 7 (.alloc [(.int .i64 (0)), (.int .i64 (0))]),
 iz (.store 2 (.s 7) (.s 10))])
 (.seqj [0, 1, 2, 7]
 (.seq
 (.drw [iq 11 (.mv (.s 1)),
 iq 12 (.mv (.s 2)),
 iq 13 (.eq (.one .i) false (.s 11) (.s 12)),
 iq 14 (.mv (.s 13)),
 ig 15 14 false (.mv (.s 0)),
 ig 16 14 false (.nilck (.s 15)),
 ig 17 14 false (.faddr 1 (.s 16)),
 ig 18 14 false (.load1 (.s 17)),
 ig 19 14 false (.loadn 2 (.s 7)),
 ig 20 14 false (.lookup (.many [.i, .i]) (.int .i64 (0)) false (.s 18) (.s 19)),
 ig 21 14 false (.bin .gtr (.s 20) (.c (.int .i64 (0)))),
 iq 22 (.pick (.s 14) (.c (.bool true)) (.s 21))] [])
 (.cond (.s 22)
 (.seq
 (.reg [iq 6 (.mv (.c (.bool true)))])
 .ret)
 .skip))
 (.seq
 (.drw [iq 23 (.mv (.s 0)),
 iq 24 (.nilck (.s 23)),
 iq 25 (.faddr 1 (.s 24)),
 iq 26 (.load1 (.s 25)),
 iq 27 (.loadn 2 (.s 7)),
 iq 28 (.lookup (.many [.i, .i]) (.int .i64 (0)) false (.s 26) (.s 27)),
 iq 29 (.bin .add (.s 28) (.c (.int .i64 (1)))),
 iq 30 (.ment (.many [.i, .i]) (.int .i64 (0)) (.s 26) (.s 27)),
 iq 31 (.ext 1 (.s 30)),
 iz (.ests (.s 26) (.s 31) (.s 29))] [])
 (.seq
 (.reg [iq 32 (.mv (.s 0)),
 iq 33 (.mv (.s 1)),
 iq 34 (.mv (.s 2)),
 iq 35 (.call 75 [(.s 32), (.s 33), (.s 34)]),
 iq 6 (.mv (.s 35))])
 .ret))))) }
theorem cf53_ok : compFn Try.prog Try.f53 [[0, 1, 2, 7]] = some cf_sub_asker_fits := by kernel_rfl
/- (*sprue/sub.asker).open -/
def cf_sub_asker_open : Eva.Fn := { ntmps := 103, res := [(.s 6)], body :=
 (.seq
 (.reg [iq 6 (.mv (.c (.bool false)))])
 (.seq
 (.reg [iq 14 (.mv (.s 0)),
 iq 15 (.nilck (.s 14)),
 iq 16 (.faddr 0 (.s 15)),
 iq 17 (.load1 (.s 16)),
 iq 18 (.mv (.s 1)),
 iq 19 (.call 29 [(.s 17), (.s 18)]),
 iq 13 (.mv (.s 19)),
 iq 20 (.ext 0 (.s 13)),
 iq 21 (.ext 1 (.s 13)),
 iq 1 (.mv (.s 20)),
 iq 7 (.mv (.s 21))])
 (.seq
 (.reg [iq 23 (.mv (.s 0)),
 iq 24 (.nilck (.s 23)),
 iq 25 (.faddr 0 (.s 24)),
 iq 26 (.load1 (.s 25)),
 iq 27 (.mv (.s 2)),
 iq 28 (.call 29 [(.s 26), (.s 27)]),
 iq 22 (.mv (.s 28)),
 iq 29 (.ext 0 (.s 22)),
 iq 30 (.ext 1 (.s 22)),
 iq 2 (.mv (.s 29)),
 iq 8 (.mv (.s 30))])
 (.seqj [0, 1, 2]
 (.seq
 (.reg [iq 31 (.mv (.s 7)),
 iq 32 (.not (.s 31)),
 iq 33 (.mv (.s 32)),
 ig 34 33 false (.mv (.s 8)),
 ig 35 33 false (.not (.s 34)),
 iq 36 (.pick (.s 33) (.c (.bool true)) (.s 35))])
 (.cond (.s 36)
 (.seq
 (.reg [iq 6 (.mv (.c (.bool false)))])
 .ret)
 .skip))
 (.seq
 (.reg [iq 38 (.mv (.s 0)),
 iq 39 (.nilck (.s 38)),
 iq 40 (.faddr 0 (.s 39)),
 iq 41 (.load1 (.s 40)),
 iq 42 (.mv (.s 1)),
 iq 43 (.call 16 [(.s 41), (.s 42)]),
 iq 37 (.mv (.s 43)),
 iq 44 (.ext 0 (.s 37)),
 iq 45 (.ext 1 (.s 37)),
 iq 9 (.alloc [(.int .i64 (0)), (ofL []), .snil, .snil]),
 iz (.store 4 (.s 9) (.s 44)),
 iq 10 (.mv (.s 45))])
 (.seq
 (.reg [iq 47 (.mv (.s 0)),
 iq 48 (.nilck (.s 47)),
 iq 49 (.faddr 0 (.s 48)),
 iq 50 (.load1 (.s 49)),
 iq 51 (.mv (.s 2)),
 iq 52 (.call 16 [(.s 50), (.s 51)]),
 iq 46 (.mv (.s 52)),
 iq 53 (.ext 0 (.s 46)),
 iq 54 (.ext 1 (.s 46)),
 iq 11 (.alloc [(.int .i64 (0)), (ofL []), .snil, .snil]),
 iz (.store 4 (.s 11) (.s 53)),
 iq 12 (.mv (.s 54))])
 (.seqj [0, 9, 11]
 (.block 0
 (.seq
 (.reg [iq 56 (.faddr 0 (.s 11)),
 iq 57 (.load1 (.s 56)),
 iq 58 (.eq (.one .i) false (.s 57) (.c (.int .i64 (6)))),
 iq 59 (.mv (.s 58)),
 ig 60 59 true (.faddr 0 (.s 9)),
 ig 61 59 true (.load1 (.s 60)),
 ig 62 59 true (.eq (.one .i) true (.s 61) (.c (.int .i64 (6)))),
 iq 63 (.pick (.s 59) (.s 62) (.c (.bool false))),
 iq 64 (.mv (.s 63)),
 ig 65 64 true (.faddr 3 (.s 11)),
 ig 66 64 true (.load1 (.s 65)),
 ig 67 64 true (.lenL (.s 66)),
 ig 68 64 true (.eq (.one .i) false (.s 67) (.c (.int .i64 (1)))),
 iq 69 (.pick (.s 64) (.s 68) (.c (.bool false))),
 iq 55 (.mv (.s 69))])
 (.cond (.s 55)
 (.seq
 (.reg [iq 70 (.mv (.s 0)),
 iq 71 (.mv (.s 1)),
 iq 72 (.faddr 3 (.s 11)),
 iq 73 (.load1 (.s 72)),
 iq 74 (.iaddrS 1 (.s 73) (.c (.int .i64 (0)))),
 iq 75 (.load1 (.s 74)),
 iq 76 (.call 53 [(.s 70), (.s 71), (.s 75)]),
 iq 6 (.mv (.s 76))])
 .ret)
 (.seq
 (.reg [iq 78 (.faddr 0 (.s 9)),
 iq 79 (.load1 (.s 78)),
 iq 80 (.faddr 0 (.s 11)),
 iq 81 (.load1 (.s 80)),
 iq 82 (.eq (.one .i) true (.s 79) (.s 81)),
 iq 77 (.mv (.s 82))])
 (.cond (.s 77)
 (.seq
 (.reg [iq 6 (.mv (.c (.bool false)))])
 .ret)
 (.seq
 (.reg [iq 84 (.faddr 0 (.s 11)),
 iq 85 (.load1 (.s 84)),
 iq 86 (.eq (.one .i) false (.s 85) (.c (.int .i64 (7)))),
 iq 83 (.mv (.s 86))])
 (.cond (.s 83)
 (.seq
 (.reg [iq 87 (.mv (.s 0)),
 iq 88 (.loadn 4 (.s 9)),
 iq 89 (.loadn 4 (.s 11)),
 iq 90 (.call 87 [(.s 87), (.s 88), (.s 89), (.c (.bool true))]),
 iq 6 (.mv (.s 90))])
 .ret)
 (.seq
 (.reg [iq 92 (.faddr 0 (.s 11)),
 iq 93 (.load1 (.s 92)),
 iq 94 (.eq (.one .i) false (.s 93) (.c (.int .i64 (8)))),
 iq 91 (.mv (.s 94))])
 (.cond (.s 91)
 (.seq
 (.reg [iq 95 (.mv (.s 0)),
 iq 96 (.loadn 4 (.s 11)),
 iq 97 (.loadn 4 (.s 9)),
 iq 98 (.call 87 [(.s 95), (.s 96), (.s 97), (.c (.bool false))]),
 iq 6 (.mv (.s 98))])
 .ret)
 .skip)))))))))
 (.seq
 (.reg [iq 99 (.mv (.s 0)),
 iq 100 (.loadn 4 (.s 9)),
 iq 101 (.loadn 4 (.s 11)),
 iq 102 (.call 88 [(.s 99), (.s 100), (.s 101)]),
 iq 6 (.mv (.s 102))])
 .ret)))))))) }
theorem cf75_ok : compFn Try.prog Try.f75 [[0, 1, 2], [0, 9, 11]] = some cf_sub_asker_open := by kernel_rfl
/- (*sprue/cons.Table).Open -/
def cf_cons_Table_Open : Eva.Fn := { ntmps := 57, res := [(.s 4), (.s 5)], body :=
 (.seq
 (.reg [iq 4 (.mv (.c (.int .i64 (0)))),
 iq 5 (.mv (.c (.bool false)))])
 (.seqj []
 (.seq
 (.reg [iq 8 (.mv (.s 0)),
 iq 9 (.nilck (.s 8)),
 iq 10 (.faddr 0 (.s 9)),
 iq 11 (.load1 (.s 10)),
 iq 12 (.lenL (.s 11)),
 iq 13 (.bin .add (.s 12) (.c (.int .i64 (1)))),
 iq 14 (.mv (.c (.int .i64 (0))))])
 (.block 0
 (.loop [0, 1, 13, 14]
 (.seq
 (.reg [iq 15 (.bin .lss (.s 14) (.s 13))])
 (.seqj [0, 1, 13, 14]
 (.cond (.s 15)
 .skip
 (.exit 0))
 (.seqj [0, 1, 13, 14]
 (.block 1
 (.seqj [0, 1, 13, 14]
 (.seq
 (.reg [iq 16 (.mv (.s 1)),
 iq 17 (.bin .lss (.s 16) (.c (.int .i64 (0)))),
 iq 18 (.mv (.s 17)),
 ig 19 18 false (.mv (.s 1)),
 ig 20 18 false (.mv (.s 0)),
 ig 21 18 false (.nilck (.s 20)),
 ig 22 18 false (.faddr 0 (.s 21)),
 ig 23 18 false (.load1 (.s 22)),
 ig 24 18 false (.lenL (.s 23)),
 ig 25 18 false (.bin .geq (.s 19) (.s 24)),
 iq 26 (.pick (.s 18) (.c (.bool true)) (.s 25))])
 (.cond (.s 26)
 (.seq
 (.reg [iq 4 (.mv (.c (.int .i64 (0)))),
 iq 5 (.mv (.c (.bool false)))])
 .ret)
 .skip))
 (.seqj [0, 1, 13, 14]
 (.seq
 (.reg [iq 27 (.mv (.s 0)),
 iq 28 (.nilck (.s 27)),
 iq 29 (.faddr 0 (.s 28)),
 iq 30 (.load1 (.s 29)),
 iq 31 (.mv (.s 1)),
 iq 32 (.iaddrS 4 (.s 30) (.s 31)),
 iq 33 (.faddr 0 (.s 32)),
 iq 34 (.load1 (.s 33)),
 iq 35 (.eq (.one .i) true (.s 34) (.c (.int .i64 (9))))])
 (.cond (.s 35)
 (.seq
 (.reg [iq 36 (.mv (.s 1)),
 iq 4 (.mv (.s 36)),
 iq 5 (.mv (.c (.bool true)))])
 .ret)
 .skip))
 (.seq
 (.drw [iq 38 (.mv (.s 0)),
 iq 39 (.nilck (.s 38)),
 iq 40 (.faddr 2 (.s 39)),
 iq 41 (.load1 (.s 40)),
 iq 42 (.mv (.s 0)),
 iq 43 (.nilck (.s 42)),
 iq 44 (.faddr 0 (.s 43)),
 iq 45 (.load1 (.s 44)),
 iq 46 (.mv (.s 1)),
 iq 47 (.iaddrS 4 (.s 45) (.s 46)),
 iq 48 (.faddr 1 (.s 47)),
 iq 49 (.load1 (.s 48)),
 iq 50 (.lookup (.one .s) (.int .i64 (0)) true (.s 41) (.s 49)),
 iq 37 (.mv (.s 50)),
 iq 51 (.ext 0 (.s 37)),
 iq 52 (.ext 1 (.s 37)),
 iq 6 (.mv (.s 51)),
 iq 7 (.mv (.s 52))] [])
 (.seqj [0, 6, 13, 14]
 (.seq
 (.reg [iq 53 (.mv (.s 7)),
 iq 54 (.not (.s 53))])
 (.cond (.s 54)
 (.reg [iq 6 (.mv (.c (.int .i64 (-1))))])
 .skip))
 (.reg [iq 55 (.mv (.s 6)),
 iq 1 (.mv (.s 55))]))))))
 (.reg [iq 56 (.bin .add (.s 14) (.c (.int .i64 (1)))),
 iq 14 (.mv (.s 56))])))))))
 (.seq
 (.reg [iq 4 (.mv (.c (.int .i64 (0)))),
 iq 5 (.mv (.c (.bool false)))])
 .ret))) }
theorem cf29_ok : compFn Try.prog Try.f29 [[], [0, 1, 13, 14], [0, 1, 13, 14], [0, 1, 13, 14], [0, 1, 13, 14], [0, 1, 13, 14], [0, 6, 13, 14]] = some cf_cons_Table_Open := by kernel_rfl
/- (*sprue/cons.Table).Node -/
def cf_cons_Table_Node : Eva.Fn := { ntmps := 35, res := [(.cn 4 4), (.s 5)], body :=
 (.seq
 (.reg [iq 4 (.alloc [(.int .i64 (0)), (ofL []), .snil, .snil]),
 iq 5 (.mv (.c (.bool false)))])
 (.seqj [0, 1, 4]
 (.seq
 (.reg [iq 7 (.mv (.s 1)),
 iq 8 (.bin .lss (.s 7) (.c (.int .i64 (0)))),
 iq 9 (.mv (.s 8)),
 ig 10 9 false (.mv (.s 1)),
 ig 11 9 false (.mv (.s 0)),
 ig 12 9 false (.nilck (.s 11)),
 ig 13 9 false (.faddr 0 (.s 12)),
 ig 14 9 false (.load1 (.s 13)),
 ig 15 9 false (.lenL (.s 14)),
 ig 16 9 false (.bin .geq (.s 10) (.s 15)),
 iq 17 (.pick (.s 9) (.c (.bool true)) (.s 16))])
 (.cond (.s 17)
 (.seq
 (.reg [iq 18 (.build [(.int .i64 (0)), (ofL []), .snil, .snil] []),
 iz (.store 4 (.s 4) (.s 18)),
 iq 5 (.mv (.c (.bool false)))])
 .ret)
 .skip))
 (.seq
 (.reg [iq 19 (.mv (.s 0)),
 iq 20 (.nilck (.s 19)),
 iq 21 (.faddr 0 (.s 20)),
 iq 22 (.load1 (.s 21)),
 iq 23 (.mv (.s 1)),
 iq 24 (.iaddrS 4 (.s 22) (.s 23)),
 iq 25 (.loadn 4 (.s 24)),
 iq 6 (.alloc [(.int .i64 (0)), (ofL []), .snil, .snil]),
 iz (.store 4 (.s 6) (.s 25))])
 (.seq
 (.drw [iq 26 (.faddr 2 (.s 6)),
 iq 27 (.load1 (.s 26)),
 iq 28 (.call 33 [(.s 27)]),
 iq 29 (.faddr 3 (.s 6)),
 iq 30 (.load1 (.s 29)),
 ⟨(some 31), (.call 25 [(.s 30)]), none, (some [])⟩,
 iq 32 (.faddr 2 (.s 6)),
 iz (.store 1 (.s 32) (.s 28)),
 iq 33 (.faddr 3 (.s 6)),
 iz (.store 1 (.s 33) (.s 31))] [])
 (.seq
 (.reg [iq 34 (.loadn 4 (.s 6)),
 iz (.store 4 (.s 4) (.s 34)),
 iq 5 (.mv (.c (.bool true)))])
 .ret))))) }
theorem cf16_ok : compFn Try.prog Try.f16 [[0, 1, 4]] = some cf_cons_Table_Node := by kernel_rfl
/- (*sprue/sub.asker).by -/
def cf_sub_asker_by : Eva.Fn := { ntmps := 62, res := [(.s 8)], body :=
 (.seq
 (.reg [iq 5 (.box (.s 1)),
 iq 6 (.box (.s 2)),
 iq 8 (.mv (.c (.bool false)))])
 (.seqj []
 (.seq
 (.reg [iq 14 (.faddr 2 (.s 6)),
 iq 15 (.load1 (.s 14)),
 iq 16 (.lenL (.s 15)),
 iq 17 (.mv (.c (.int .i64 (0))))])
 (.block 0
 (.loop [0, 3, 5, 6, 15, 16, 17]
 (.seq
 (.reg [iq 18 (.bin .lss (.s 17) (.s 16))])
 (.seqj [0, 3, 5, 6, 15, 16, 17]
 (.cond (.s 18)
 .skip
 (.exit 0))
 (.seqj [0, 3, 5, 6, 15, 16, 17]
 (.block 1
 (.seq
 (.reg [iq 19 (.mv (.s 17)),
 iq 20 (.iaddrS 1 (.s 15) (.s 17)),
 iq 21 (.load1 (.s 20)),
 iq 9 (.mv (.s 19)),
 iq 10 (.mv (.s 21))])
 (.seq
 (.reg [iq 22 (.faddr 2 (.s 5)),
 iq 23 (.load1 (.s 22)),
 iq 24 (.mv (.s 10)),
 iq 25 (.call 93 [(.s 23), (.s 24)]),
 iq 11 (.mv (.s 25))])
 (.seqj [0, 3, 5, 6, 9, 11, 15, 16, 17]
 (.seq
 (.reg [iq 26 (.mv (.s 11)),
 iq 27 (.bin .lss (.s 26) (.c (.int .i64 (0)))),
 iq 28 (.mv (.s 27)),
 ig 29 28 false (.mv (.s 11)),
 ig 30 28 false (.faddr 3 (.s 5)),
 ig 31 28 false (.load1 (.s 30)),
 ig 32 28 false (.lenL (.s 31)),
 ig 33 28 false (.bin .geq (.s 29) (.s 32)),
 iq 34 (.pick (.s 28) (.c (.bool true)) (.s 33)),
 iq 35 (.mv (.s 34)),
 ig 36 35 false (.mv (.s 9)),
 ig 37 35 false (.faddr 3 (.s 6)),
 ig 38 35 false (.load1 (.s 37)),
 ig 39 35 false (.lenL (.s 38)),
 ig 40 35 false (.bin .geq (.s 36) (.s 39)),
 iq 41 (.pick (.s 35) (.c (.bool true)) (.s 40))])
 (.cond (.s 41)
 (.seq
 (.reg [iq 8 (.mv (.c (.bool false)))])
 .ret)
 .skip))
 (.seq
 (.drw [iq 42 (.faddr 3 (.s 5)),
 iq 43 (.load1 (.s 42)),
 iq 44 (.mv (.s 11)),
 iq 45 (.iaddrS 1 (.s 43) (.s 44)),
 iq 46 (.load1 (.s 45)),
 iq 47 (.faddr 3 (.s 6)),
 iq 48 (.load1 (.s 47)),
 iq 49 (.mv (.s 9)),
 iq 50 (.iaddrS 1 (.s 48) (.s 49)),
 iq 51 (.load1 (.s 50)),
 iq 12 (.mv (.s 46)),
 iq 13 (.mv (.s 51))] [])
 (.seqj [0, 3, 5, 6, 12, 13, 15, 16, 17]
 (.seq
 (.reg [iq 52 (.mv (.s 3)),
 iq 53 (.not (.s 52))])
 (.cond (.s 53)
 (.reg [iq 54 (.mv (.s 13)),
 iq 55 (.mv (.s 12)),
 iq 12 (.mv (.s 54)),
 iq 13 (.mv (.s 55))])
 .skip))
 (.seq
 (.reg [iq 56 (.mv (.s 0)),
 iq 57 (.mv (.s 12)),
 iq 58 (.mv (.s 13)),
 iq 59 (.call 53 [(.s 56), (.s 57), (.s 58)]),
 iq 60 (.not (.s 59))])
 (.cond (.s 60)
 (.seq
 (.reg [iq 8 (.mv (.c (.bool false)))])
 .ret)
 .skip))))))))
 (.reg [iq 61 (.bin .add (.s 17) (.c (.int .i64 (1)))),
 iq 17 (.mv (.s 61))])))))))
 (.seq
 (.reg [iq 8 (.mv (.c (.bool true)))])
 .ret))) }
theorem cf87_ok : compFn Try.prog Try.f87 [[], [0, 3, 5, 6, 15, 16, 17], [0, 3, 5, 6, 15, 16, 17], [0, 3, 5, 6, 15, 16, 17], [0, 3, 5, 6, 9, 11, 15, 16, 17], [0, 3, 5, 6, 12, 13, 15, 16, 17]] = some cf_sub_asker_by := by kernel_rfl
/- slices.Index(()string,string) -/
def cf_slices_Index_string : Eva.Fn := { ntmps := 19, res := [(.s 4)], body :=
 (.seq
 (.reg [iq 4 (.mv (.c (.int .i64 (0))))])
 (.seqj []
 (.seq
 (.reg [iq 6 (.mv (.s 0)),
 iq 7 (.lenL (.s 6)),
 iq 8 (.mv (.c (.int .i64 (0))))])
 (.block 0
 (.loop [0, 1, 7, 8]
 (.seq
 (.reg [iq 9 (.bin .lss (.s 8) (.s 7))])
 (.seqj [0, 1, 7, 8]
 (.cond (.s 9)
 .skip
 (.exit 0))
 (.seqj [0, 1, 7, 8]
 (.block 1
 (.seq
 (.reg [iq 10 (.mv (.s 8)),
 iq 5 (.mv (.s 10))])
 (.seq
 (.reg [iq 11 (.mv (.s 1)),
 iq 12 (.mv (.s 0)),
 iq 13 (.mv (.s 5)),
 iq 14 (.iaddrS 1 (.s 12) (.s 13)),
 iq 15 (.load1 (.s 14)),
 iq 16 (.eq (.one .s) false (.s 11) (.s 15))])
 (.cond (.s 16)
 (.seq
 (.reg [iq 17 (.mv (.s 5)),
 iq 4 (.mv (.s 17))])
 .ret)
 .skip))))
 (.reg [iq 18 (.bin .add (.s 8) (.c (.int .i64 (1)))),
 iq 8 (.mv (.s 18))])))))))
 (.seq
 (.reg [iq 4 (.mv (.c (.int .i64 (-1))))])
 .ret))) }
theorem cf93_ok : compFn Try.prog Try.f93 [[], [0, 1, 7, 8], [0, 1, 7, 8], [0, 1, 7, 8]] = some cf_slices_Index_string := by kernel_rfl
/- (*sprue/sub.asker).kids -/
def cf_sub_asker_kids : Eva.Fn := { ntmps := 35, res := [(.s 6)], body :=
 (.seq
 (.reg [iq 4 (.box (.s 1)),
 iq 5 (.box (.s 2)),
 iq 6 (.mv (.c (.bool false)))])
 (.seqj []
 (.seq
 (.reg [iq 8 (.faddr 3 (.s 4)),
 iq 9 (.load1 (.s 8)),
 iq 10 (.lenL (.s 9)),
 iq 11 (.mv (.c (.int .i64 (0))))])
 (.block 0
 (.loop [0, 4, 5, 10, 11]
 (.seq
 (.reg [iq 12 (.bin .lss (.s 11) (.s 10))])
 (.seqj [0, 4, 5, 10, 11]
 (.cond (.s 12)
 .skip
 (.exit 0))
 (.seqj [0, 4, 5, 10, 11]
 (.block 1
 (.seq
 (.reg [iq 13 (.mv (.s 11)),
 iq 7 (.mv (.s 13))])
 (.seq
 (.drw [iq 14 (.mv (.s 7)),
 iq 15 (.faddr 3 (.s 5)),
 iq 16 (.load1 (.s 15)),
 iq 17 (.lenL (.s 16)),
 iq 18 (.bin .geq (.s 14) (.s 17)),
 iq 19 (.mv (.s 18)),
 ig 20 19 false (.mv (.s 0)),
 ig 21 19 false (.faddr 3 (.s 4)),
 ig 22 19 false (.load1 (.s 21)),
 ig 23 19 false (.mv (.s 7)),
 ig 24 19 false (.iaddrS 1 (.s 22) (.s 23)),
 ig 25 19 false (.load1 (.s 24)),
 ig 26 19 false (.faddr 3 (.s 5)),
 ig 27 19 false (.load1 (.s 26)),
 ig 28 19 false (.mv (.s 7)),
 ig 29 19 false (.iaddrS 1 (.s 27) (.s 28)),
 ig 30 19 false (.load1 (.s 29)),
 ⟨(some 31), (.call 53 [(.s 20), (.s 25), (.s 30)]), (some (19, false)), (some [])⟩,
 ig 32 19 false (.not (.s 31)),
 iq 33 (.pick (.s 19) (.c (.bool true)) (.s 32))] [])
 (.cond (.s 33)
 (.seq
 (.reg [iq 6 (.mv (.c (.bool false)))])
 .ret)
 .skip))))
 (.reg [iq 34 (.bin .add (.s 11) (.c (.int .i64 (1)))),
 iq 11 (.mv (.s 34))])))))))
 (.seq
 (.reg [iq 6 (.mv (.c (.bool true)))])
 .ret))) }
theorem cf88_ok : compFn Try.prog Try.f88 [[], [0, 4, 5, 10, 11], [0, 4, 5, 10, 11], [0, 4, 5, 10, 11]] = some cf_sub_asker_kids := by kernel_rfl
/- (sprue/kinds.asker).builtin -/
def cf_kinds_asker_builtin : Eva.Fn := { ntmps := 173, res := [(.s 4), (.s 5)], body :=
 (.seq
 (.reg [iq 2 (.box (.s 0)),
 iq 4 (.mv (.c (.int .i64 (0)))),
 iq 5 (.mv (.c (.int .i64 (0))))])
 (.seq
 (.reg [iq 7 (.faddr 1 (.s 2)),
 iq 8 (.load1 (.s 7)),
 iq 9 (.iaddrS 4 (.s 8) (.c (.int .i64 (0)))),
 iq 10 (.faddr 0 (.s 9)),
 iq 11 (.load1 (.s 10)),
 iq 6 (.mv (.s 11))])
 (.seqj [2]
 (.seq
 (.reg [iq 12 (.mv (.s 1))])
 (.block 0
 (.seq
 (.reg [iq 14 (.eq (.one .s) false (.s 12) (.c (ofL [108, 101, 110]))),
 iq 13 (.mv (.s 14))])
 (.cond (.s 13)
 (.seq
 (.reg [iq 15 (.loadn 3 (.s 2)),
 iq 16 (.mv (.s 6)),
 iq 17 (.eq (.one .i) false (.s 16) (.c (.int .i64 (3)))),
 iq 18 (.mv (.s 17)),
 ig 19 18 false (.mv (.s 6)),
 ig 20 18 false (.eq (.one .i) false (.s 19) (.c (.int .i64 (4)))),
 iq 21 (.pick (.s 18) (.c (.bool true)) (.s 20)),
 iq 22 (.mv (.s 21)),
 ig 23 22 false (.mv (.s 6)),
 ig 24 22 false (.eq (.one .i) false (.s 23) (.c (.int .i64 (5)))),
 iq 25 (.pick (.s 22) (.c (.bool true)) (.s 24)),
 iq 26 (.call 54 [(.s 15), (.c (.int .i64 (2))), (.s 25)]),
 iq 27 (.ext 0 (.s 26)),
 iq 28 (.ext 1 (.s 26)),
 iq 4 (.mv (.s 27)),
 iq 5 (.mv (.s 28))])
 .ret)
 (.seq
 (.reg [iq 30 (.eq (.one .s) false (.s 12) (.c (ofL [110, 111, 116]))),
 iq 29 (.mv (.s 30))])
 (.cond (.s 29)
 (.seq
 (.drw [iq 31 (.loadn 3 (.s 2)),
 iq 32 (.loadn 3 (.s 2)),
 iq 33 (.bsl 1 1 [(.int .i64 (0))] [(0, 1, (.c (.int .i64 (1))))]),
 ⟨(some 34), (.call 55 [(.s 32), (.s 33)]), none, (some [2])⟩,
 ⟨(some 35), (.call 54 [(.s 31), (.c (.int .i64 (1))), (.s 34)]), none, (some [])⟩,
 iq 36 (.ext 0 (.s 35)),
 iq 37 (.ext 1 (.s 35)),
 iq 4 (.mv (.s 36)),
 iq 5 (.mv (.s 37))] [])
 .ret)
 (.seqj [2, 6, 12, 38]
 (.seq
 (.reg [iq 39 (.eq (.one .s) false (.s 12) (.c (ofL [97, 110, 100]))),
 iq 38 (.mv (.s 39))])
 (.cond (.s 38)
 .skip
 (.reg [iq 40 (.eq (.one .s) false (.s 12) (.c (ofL [111, 114]))),
 iq 38 (.mv (.s 40))])))
 (.cond (.s 38)
 (.seq
 (.drw [iq 41 (.loadn 3 (.s 2)),
 iq 42 (.loadn 3 (.s 2)),
 iq 43 (.bsl 1 2 [(.int .i64 (0)), (.int .i64 (0))] [(0, 1, (.c (.int .i64 (1)))), (1, 1, (.c (.int .i64 (1))))]),
 ⟨(some 44), (.call 55 [(.s 42), (.s 43)]), none, (some [2])⟩,
 ⟨(some 45), (.call 54 [(.s 41), (.c (.int .i64 (1))), (.s 44)]), none, (some [])⟩,
 iq 46 (.ext 0 (.s 45)),
 iq 47 (.ext 1 (.s 45)),
 iq 4 (.mv (.s 46)),
 iq 5 (.mv (.s 47))] [])
 .ret)
 (.seq
 (.reg [iq 49 (.eq (.one .s) false (.s 12) (.c (ofL [101, 113]))),
 iq 48 (.mv (.s 49))])
 (.cond (.s 48)
 (.seq
 (.drw [iq 50 (.loadn 3 (.s 2)),
 iq 51 (.mv (.s 6)),
 iq 52 (.bin .geq (.s 51) (.c (.int .i64 (1)))),
 iq 53 (.mv (.s 52)),
 ig 54 53 true (.mv (.s 6)),
 ig 55 53 true (.bin .leq (.s 54) (.c (.int .i64 (3)))),
 iq 56 (.pick (.s 53) (.s 55) (.c (.bool false))),
 iq 57 (.mv (.s 56)),
 ig 58 57 true (.loadn 3 (.s 2)),
 ig 59 57 true (.mv (.s 6)),
 ig 60 57 true (.mv (.s 6)),
 ig 61 57 true (.bsl 1 2 [(.int .i64 (0)), (.int .i64 (0))] [(0, 1, (.s 59)), (1, 1, (.s 60))]),
 ⟨(some 62), (.call 55 [(.s 58), (.s 61)]), (some (57, true)), (some [2])⟩,
 iq 63 (.pick (.s 57) (.s 62) (.c (.bool false))),
 ⟨(some 64), (.call 54 [(.s 50), (.c (.int .i64 (1))), (.s 63)]), none, (some [])⟩,
 iq 65 (.ext 0 (.s 64)),
 iq 66 (.ext 1 (.s 64)),
 iq 4 (.mv (.s 65)),
 iq 5 (.mv (.s 66))] [])
 .ret)
 (.seq
 (.reg [iq 68 (.eq (.one .s) false (.s 12) (.c (ofL [108, 116]))),
 iq 67 (.mv (.s 68))])
 (.cond (.s 67)
 (.seq
 (.drw [iq 69 (.loadn 3 (.s 2)),
 iq 70 (.loadn 3 (.s 2)),
 iq 71 (.bsl 1 2 [(.int .i64 (0)), (.int .i64 (0))] [(0, 1, (.c (.int .i64 (2)))), (1, 1, (.c (.int .i64 (2))))]),
 ⟨(some 72), (.call 55 [(.s 70), (.s 71)]), none, (some [2])⟩,
 ⟨(some 73), (.call 54 [(.s 69), (.c (.int .i64 (1))), (.s 72)]), none, (some [])⟩,
 iq 74 (.ext 0 (.s 73)),
 iq 75 (.ext 1 (.s 73)),
 iq 4 (.mv (.s 74)),
 iq 5 (.mv (.s 75))] [])
 .ret)
 (.seqj [2, 6, 12, 76]
 (.seq
 (.reg [iq 77 (.eq (.one .s) false (.s 12) (.c (ofL [97, 100, 100]))),
 iq 76 (.mv (.s 77))])
 (.cond (.s 76)
 .skip
 (.seq
 (.reg [iq 78 (.eq (.one .s) false (.s 12) (.c (ofL [115, 117, 98]))),
 iq 76 (.mv (.s 78))])
 (.cond (.s 76)
 .skip
 (.seq
 (.reg [iq 79 (.eq (.one .s) false (.s 12) (.c (ofL [109, 117, 108]))),
 iq 76 (.mv (.s 79))])
 (.cond (.s 76)
 .skip
 (.seq
 (.reg [iq 80 (.eq (.one .s) false (.s 12) (.c (ofL [115, 104, 108]))),
 iq 76 (.mv (.s 80))])
 (.cond (.s 76)
 .skip
 (.reg [iq 81 (.eq (.one .s) false (.s 12) (.c (ofL [115, 104, 114]))),
 iq 76 (.mv (.s 81))])))))))))
 (.cond (.s 76)
 (.seq
 (.drw [iq 82 (.loadn 3 (.s 2)),
 iq 83 (.loadn 3 (.s 2)),
 iq 84 (.bsl 1 2 [(.int .i64 (0)), (.int .i64 (0))] [(0, 1, (.c (.int .i64 (2)))), (1, 1, (.c (.int .i64 (2))))]),
 ⟨(some 85), (.call 55 [(.s 83), (.s 84)]), none, (some [2])⟩,
 ⟨(some 86), (.call 54 [(.s 82), (.c (.int .i64 (2))), (.s 85)]), none, (some [])⟩,
 iq 87 (.ext 0 (.s 86)),
 iq 88 (.ext 1 (.s 86)),
 iq 4 (.mv (.s 87)),
 iq 5 (.mv (.s 88))] [])
 .ret)
 (.seq
 (.reg [iq 90 (.eq (.one .s) false (.s 12) (.c (ofL [99, 97, 116]))),
 iq 89 (.mv (.s 90))])
 (.cond (.s 89)
 (.seq
 (.drw [iq 91 (.loadn 3 (.s 2)),
 iq 92 (.loadn 3 (.s 2)),
 iq 93 (.bsl 1 2 [(.int .i64 (0)), (.int .i64 (0))] [(0, 1, (.c (.int .i64 (3)))), (1, 1, (.c (.int .i64 (3))))]),
 ⟨(some 94), (.call 55 [(.s 92), (.s 93)]), none, (some [2])⟩,
 ⟨(some 95), (.call 54 [(.s 91), (.c (.int .i64 (3))), (.s 94)]), none, (some [])⟩,
 iq 96 (.ext 0 (.s 95)),
 iq 97 (.ext 1 (.s 95)),
 iq 4 (.mv (.s 96)),
 iq 5 (.mv (.s 97))] [])
 .ret)
 (.seq
 (.reg [iq 99 (.eq (.one .s) false (.s 12) (.c (ofL [116, 101, 120, 116]))),
 iq 98 (.mv (.s 99))])
 (.cond (.s 98)
 (.seq
 (.reg [iq 100 (.loadn 3 (.s 2)),
 iq 101 (.mv (.s 6)),
 iq 102 (.eq (.one .i) false (.s 101) (.c (.int .i64 (2)))),
 iq 103 (.mv (.s 102)),
 ig 104 103 false (.mv (.s 6)),
 ig 105 103 false (.eq (.one .i) false (.s 104) (.c (.int .i64 (1)))),
 iq 106 (.pick (.s 103) (.c (.bool true)) (.s 105)),
 iq 107 (.call 54 [(.s 100), (.c (.int .i64 (3))), (.s 106)]),
 iq 108 (.ext 0 (.s 107)),
 iq 109 (.ext 1 (.s 107)),
 iq 4 (.mv (.s 108)),
 iq 5 (.mv (.s 109))])
 .ret)
 (.seq
 (.reg [iq 111 (.eq (.one .s) false (.s 12) (.c (ofL [97, 116]))),
 iq 110 (.mv (.s 111))])
 (.cond (.s 110)
 (.seq
 (.drw [iq 112 (.loadn 3 (.s 2)),
 iq 113 (.loadn 3 (.s 2)),
 iq 114 (.bsl 1 2 [(.int .i64 (0)), (.int .i64 (0))] [(0, 1, (.c (.int .i64 (4)))), (1, 1, (.c (.int .i64 (2))))]),
 ⟨(some 115), (.call 55 [(.s 113), (.s 114)]), none, (some [2])⟩,
 ⟨(some 116), (.call 56 [(.s 112), (.s 115)]), none, (some [])⟩,
 iq 117 (.ext 0 (.s 116)),
 iq 118 (.ext 1 (.s 116)),
 iq 4 (.mv (.s 117)),
 iq 5 (.mv (.s 118))] [])
 .ret)
 (.seq
 (.reg [iq 120 (.eq (.one .s) false (.s 12) (.c (ofL [103, 101, 116]))),
 iq 119 (.mv (.s 120))])
 (.cond (.s 119)
 (.seq
 (.reg [iq 121 (.loadn 3 (.s 2)),
 iq 122 (.call 57 [(.s 121)]),
 iq 123 (.ext 0 (.s 122)),
 iq 124 (.ext 1 (.s 122)),
 iq 4 (.mv (.s 123)),
 iq 5 (.mv (.s 124))])
 .ret)
 (.seq
 (.reg [iq 126 (.eq (.one .s) false (.s 12) (.c (ofL [104, 97, 115]))),
 iq 125 (.mv (.s 126))])
 (.cond (.s 125)
 (.seq
 (.drw [iq 127 (.loadn 3 (.s 2)),
 iq 128 (.loadn 3 (.s 2)),
 iq 129 (.bsl 1 1 [(.int .i64 (0))] [(0, 1, (.c (.int .i64 (6))))]),
 ⟨(some 130), (.call 55 [(.s 128), (.s 129)]), none, (some [2])⟩,
 ⟨(some 131), (.call 54 [(.s 127), (.c (.int .i64 (1))), (.s 130)]), none, (some [])⟩,
 iq 132 (.ext 0 (.s 131)),
 iq 133 (.ext 1 (.s 131)),
 iq 4 (.mv (.s 132)),
 iq 5 (.mv (.s 133))] [])
 .ret)
 (.seq
 (.reg [iq 135 (.eq (.one .s) false (.s 12) (.c (ofL [111, 114, 101, 108, 115, 101]))),
 iq 134 (.mv (.s 135))])
 (.cond (.s 134)
 (.seq
 (.drw [iq 136 (.loadn 3 (.s 2)),
 iq 137 (.loadn 3 (.s 2)),
 iq 138 (.bsl 1 1 [(.int .i64 (0))] [(0, 1, (.c (.int .i64 (6))))]),
 ⟨(some 139), (.call 55 [(.s 137), (.s 138)]), none, (some [2])⟩,
 iq 140 (.mv (.s 139)),
 ig 141 140 true (.faddr 1 (.s 2)),
 ig 142 140 true (.load1 (.s 141)),
 ig 143 140 true (.iaddrS 4 (.s 142) (.c (.int .i64 (0)))),
 ig 144 140 true (.faddr 3 (.s 143)),
 ig 145 140 true (.load1 (.s 144)),
 ig 146 140 true (.lenL (.s 145)),
 ig 147 140 true (.eq (.one .i) false (.s 146) (.c (.int .i64 (1)))),
 iq 148 (.pick (.s 140) (.s 147) (.c (.bool false))),
 iq 149 (.mv (.s 148)),
 ig 150 149 true (.faddr 2 (.s 2)),
 ig 151 149 true (.load1 (.s 150)),
 ig 152 149 true (.iaddrS 1 (.s 151) (.c (.int .i64 (1)))),
 ig 153 149 true (.load1 (.s 152)),
 ig 154 149 true (.faddr 1 (.s 2)),
 ig 155 149 true (.load1 (.s 154)),
 ig 156 149 true (.iaddrS 4 (.s 155) (.c (.int .i64 (0)))),
 ig 157 149 true (.faddr 3 (.s 156)),
 ig 158 149 true (.load1 (.s 157)),
 ig 159 149 true (.iaddrS 1 (.s 158) (.c (.int .i64 (0)))),
 ig 160 149 true (.load1 (.s 159)),
 ig 161 149 true (.eq (.one .i) false (.s 153) (.s 160)),
 iq 162 (.pick (.s 149) (.s 161) (.c (.bool false))),
 ⟨(some 163), (.call 56 [(.s 136), (.s 162)]), none, (some [])⟩,
 iq 164 (.ext 0 (.s 163)),
 iq 165 (.ext 1 (.s 163)),
 iq 4 (.mv (.s 164)),
 iq 5 (.mv (.s 165))] [])
 .ret)
 .skip))))))))))))))))))))))))))
 (.seq
 (.drw [iq 166 (.loadn 3 (.s 2)),
 iq 167 (.loadn 3 (.s 2)),
 iq 168 (.bsl 1 1 [(.int .i64 (0))] [(0, 1, (.c (.int .i64 (2))))]),
 ⟨(some 169), (.call 55 [(.s 167), (.s 168)]), none, (some [2])⟩,
 ⟨(some 170), (.call 54 [(.s 166), (.c (.int .i64 (2))), (.s 169)]), none, (some [])⟩,
 iq 171 (.ext 0 (.s 170)),
 iq 172 (.ext 1 (.s 170)),
 iq 4 (.mv (.s 171)),
 iq 5 (.mv (.s 172))] [])
 .ret)))) }
theorem cf30_ok : compFn Try.prog Try.f30 [[2], [2, 6, 12, 38], [2, 6, 12, 76]] = some cf_kinds_asker_builtin := by kernel_rfl
/- (sprue/kinds.asker).base -/
def cf_kinds_asker_base : Eva.Fn := { ntmps := 16, res := [(.s 6), (.s 7)], body :=
 (.seq
 (.reg [iq 3 (.box (.s 0)),
 iq 6 (.mv (.c (.int .i64 (0)))),
 iq 7 (.mv (.c (.int .i64 (0))))])
 (.seqj [1, 3]
 (.seq
 (.reg [iq 8 (.mv (.s 2)),
 iq 9 (.not (.s 8))])
 (.cond (.s 9)
 (.seq
 (.reg [iq 6 (.mv (.c (.int .i64 (0)))),
 iq 7 (.mv (.c (.int .i64 (17))))])
 .ret)
 .skip))
 (.seq
 (.reg [iq 10 (.faddr 0 (.s 3)),
 iq 11 (.load1 (.s 10)),
 iq 12 (.mv (.s 1)),
 iq 13 (.call 76 [(.s 11), (.s 12)]),
 iq 14 (.ext 0 (.s 13)),
 iq 15 (.ext 1 (.s 13)),
 iq 6 (.mv (.s 14)),
 iq 7 (.mv (.s 15))])
 .ret))) }
theorem cf54_ok : compFn Try.prog Try.f54 [[1, 3]] = some cf_kinds_asker_base := by kernel_rfl
/- (*sprue/cons.Table).Base -/
def cf_cons_Table_Base : Eva.Fn := { ntmps := 12, res := [(.s 4), (.s 5)], body :=
 (.seq
 (.reg [iq 4 (.mv (.c (.int .i64 (0)))),
 iq 5 (.mv (.c (.int .i64 (0))))])
 (.seq
 (.reg [iq 6 (.mv (.s 0)),
 iq 7 (.mv (.s 1)),
 iq 8 (.build [(.int .i64 (0)), (ofL []), .snil, .snil] [(0, 1, (.s 7))]),
 iq 9 (.call 61 [(.s 6), (.s 8)]),
 iq 10 (.ext 0 (.s 9)),
 iq 11 (.ext 1 (.s 9)),
 iq 4 (.mv (.s 10)),
 iq 5 (.mv (.s 11))])
 .ret)) }
theorem cf76_ok : compFn Try.prog Try.f76 [] = some cf_cons_Table_Base := by kernel_rfl
/- (sprue/kinds.asker).are -/
def cf_kinds_asker_are : Eva.Fn := { ntmps := 23, res := [(.s 4)], body :=
 (.seq
 (.reg [iq 2 (.box (.s 0)),
 iq 4 (.mv (.c (.bool false)))])
 (.seqj []
 (.seq
 (.reg [iq 7 (.mv (.s 1)),
 iq 8 (.lenL (.s 7)),
 iq 9 (.mv (.c (.int .i64 (0))))])
 (.block 0
 (.loop [2, 7, 8, 9]
 (.seq
 (.reg [iq 10 (.bin .lss (.s 9) (.s 8))])
 (.seqj [2, 7, 8, 9]
 (.cond (.s 10)
 .skip
 (.exit 0))
 (.seqj [2, 7, 8, 9]
 (.block 1
 (.seq
 (.reg [iq 11 (.mv (.s 9)),
 iq 12 (.iaddrS 1 (.s 7) (.s 9)),
 iq 13 (.load1 (.s 12)),
 iq 5 (.mv (.s 11)),
 iq 6 (.mv (.s 13))])
 (.seq
 (.reg [iq 14 (.faddr 1 (.s 2)),
 iq 15 (.load1 (.s 14)),
 iq 16 (.mv (.s 5)),
 iq 17 (.iaddrS 4 (.s 15) (.s 16)),
 iq 18 (.faddr 0 (.s 17)),
 iq 19 (.load1 (.s 18)),
 iq 20 (.mv (.s 6)),
 iq 21 (.eq (.one .i) true (.s 19) (.s 20))])
 (.cond (.s 21)
 (.seq
 (.reg [iq 4 (.mv (.c (.bool false)))])
 .ret)
 .skip))))
 (.reg [iq 22 (.bin .add (.s 9) (.c (.int .i64 (1)))),
 iq 9 (.mv (.s 22))])))))))
 (.seq
 (.reg [iq 4 (.mv (.c (.bool true)))])
 .ret))) }
theorem cf55_ok : compFn Try.prog Try.f55 [[], [2, 7, 8, 9], [2, 7, 8, 9], [2, 7, 8, 9]] = some cf_kinds_asker_are := by kernel_rfl
/- (sprue/kinds.asker).kid -/
def cf_kinds_asker_kid : Eva.Fn := { ntmps := 24, res := [(.s 4), (.s 5)], body :=
 (.seq
 (.reg [iq 2 (.box (.s 0)),
 iq 4 (.mv (.c (.int .i64 (0)))),
 iq 5 (.mv (.c (.int .i64 (0))))])
 (.seqj [2]
 (.seq
 (.reg [iq 6 (.mv (.s 1)),
 iq 7 (.not (.s 6)),
 iq 8 (.mv (.s 7)),
 ig 9 8 false (.faddr 1 (.s 2)),
 ig 10 8 false (.load1 (.s 9)),
 ig 11 8 false (.iaddrS 4 (.s 10) (.c (.int .i64 (0)))),
 ig 12 8 false (.faddr 3 (.s 11)),
 ig 13 8 false (.load1 (.s 12)),
 ig 14 8 false (.lenL (.s 13)),
 ig 15 8 false (.eq (.one .i) false (.s 14) (.c (.int .i64 (0)))),
 iq 16 (.pick (.s 8) (.c (.bool true)) (.s 15))])
 (.cond (.s 16)
 (.seq
 (.reg [iq 4 (.mv (.c (.int .i64 (0)))),
 iq 5 (.mv (.c (.int .i64 (17))))])
 .ret)
 .skip))
 (.seq
 (.reg [iq 17 (.faddr 1 (.s 2)),
 iq 18 (.load1 (.s 17)),
 iq 19 (.iaddrS 4 (.s 18) (.c (.int .i64 (0)))),
 iq 20 (.faddr 3 (.s 19)),
 iq 21 (.load1 (.s 20)),
 iq 22 (.iaddrS 1 (.s 21) (.c (.int .i64 (0)))),
 iq 23 (.load1 (.s 22)),
 iq 4 (.mv (.s 23)),
 iq 5 (.mv (.c (.int .i64 (0))))])
 .ret))) }
theorem cf56_ok : compFn Try.prog Try.f56 [[2]] = some cf_kinds_asker_kid := by kernel_rfl
/- (sprue/kinds.asker).get -/
def cf_kinds_asker_get : Eva.Fn := { ntmps := 44, res := [(.s 2), (.s 3)], body :=
 (.seq
 (.reg [iq 1 (.box (.s 0)),
 iq 2 (.mv (.c (.int .i64 (0)))),
 iq 3 (.mv (.c (.int .i64 (0))))])
 (.seq
 (.drw [iq 11 (.loadn 3 (.s 1)),
 iq 12 (.loadn 3 (.s 1)),
 iq 13 (.bsl 1 2 [(.int .i64 (0)), (.int .i64 (0))] [(0, 1, (.c (.int .i64 (5)))), (1, 1, (.c (.int .i64 (3))))]),
 ⟨(some 14), (.call 55 [(.s 12), (.s 13)]), none, (some [1])⟩,
 ⟨(some 15), (.call 56 [(.s 11), (.s 14)]), none, (some [])⟩,
 iq 10 (.mv (.s 15)),
 iq 16 (.ext 0 (.s 10)),
 iq 17 (.ext 1 (.s 10)),
 iq 4 (.mv (.s 16)),
 iq 5 (.mv (.s 17))] [])
 (.seqj [1, 4]
 (.seq
 (.reg [iq 18 (.mv (.s 5)),
 iq 19 (.eq (.one .i) true (.s 18) (.c (.int .i64 (0))))])
 (.cond (.s 19)
 (.seq
 (.reg [iq 20 (.mv (.s 5)),
 iq 2 (.mv (.c (.int .i64 (0)))),
 iq 3 (.mv (.s 20))])
 .ret)
 .skip))
 (.seq
 (.reg [iq 22 (.faddr 0 (.s 1)),
 iq 23 (.load1 (.s 22)),
 iq 24 (.mv (.s 4)),
 iq 25 (.call 29 [(.s 23), (.s 24)]),
 iq 21 (.mv (.s 25)),
 iq 26 (.ext 0 (.s 21)),
 iq 27 (.ext 1 (.s 21)),
 iq 6 (.mv (.s 26)),
 iq 7 (.mv (.s 27))])
 (.seqj [1, 4]
 (.seq
 (.reg [iq 29 (.faddr 0 (.s 1)),
 iq 30 (.load1 (.s 29)),
 iq 31 (.mv (.s 6)),
 iq 32 (.call 16 [(.s 30), (.s 31)]),
 iq 28 (.mv (.s 32)),
 iq 33 (.ext 0 (.s 28)),
 iq 34 (.ext 1 (.s 28)),
 iq 8 (.alloc [(.int .i64 (0)), (ofL []), .snil, .snil]),
 iz (.store 4 (.s 8) (.s 33)),
 iq 9 (.mv (.s 34))])
 (.seq
 (.reg [iq 35 (.faddr 0 (.s 8)),
 iq 36 (.load1 (.s 35)),
 iq 37 (.eq (.one .i) false (.s 36) (.c (.int .i64 (6))))])
 (.cond (.s 37)
 (.seq
 (.reg [iq 2 (.mv (.c (.int .i64 (0)))),
 iq 3 (.mv (.c (.int .i64 (17))))])
 .ret)
 .skip)))
 (.seq
 (.reg [iq 38 (.faddr 0 (.s 1)),
 iq 39 (.load1 (.s 38)),
 iq 40 (.mv (.s 4)),
 iq 41 (.call 77 [(.s 39), (.s 40)]),
 iq 42 (.ext 0 (.s 41)),
 iq 43 (.ext 1 (.s 41)),
 iq 2 (.mv (.s 42)),
 iq 3 (.mv (.s 43))])
 .ret)))))) }
theorem cf57_ok : compFn Try.prog Try.f57 [[1, 4], [1, 4]] = some cf_kinds_asker_get := by kernel_rfl
/- (*sprue/cons.Table).Opt -/
def cf_cons_Table_Opt : Eva.Fn := { ntmps := 13, res := [(.s 4), (.s 5)], body :=
 (.seq
 (.reg [iq 4 (.mv (.c (.int .i64 (0)))),
 iq 5 (.mv (.c (.int .i64 (0))))])
 (.seq
 (.reg [iq 6 (.mv (.s 0)),
 iq 7 (.mv (.s 1)),
 iq 8 (.bsl 1 1 [(.int .i64 (0))] [(0, 1, (.s 7))]),
 iq 9 (.build [(.int .i64 (0)), (ofL []), .snil, .snil] [(0, 1, (.c (.int .i64 (6)))), (3, 1, (.s 8))]),
 iq 10 (.call 61 [(.s 6), (.s 9)]),
 iq 11 (.ext 0 (.s 10)),
 iq 12 (.ext 1 (.s 10)),
 iq 4 (.mv (.s 11)),
 iq 5 (.mv (.s 12))])
 .ret)) }
theorem cf77_ok : compFn Try.prog Try.f77 [] = some cf_cons_Table_Opt := by kernel_rfl
/- sprue/spruelaw3.Few -/
def cf_spruelaw3_Few : Eva.Fn := { ntmps := 41, res := [(.s 4)], body :=
 (.seq
 (.reg [iq 2 (.box (.s 0)),
 iq 4 (.mv (.c (.int .i64 (0))))])
 (.seqj [1, 2]
 (.seq
 (.reg [iq 6 (.mv (.s 1)),
 iq 7 (.bin .leq (.s 6) (.c (.int .i64 (0)))),
 iq 8 (.mv (.s 7)),
 ig 9 8 false (.faddr 3 (.s 2)),
 ig 10 8 false (.load1 (.s 9)),
 ig 11 8 false (.lenL (.s 10)),
 ig 12 8 false (.bin .gtr (.s 11) (.c (.int .i64 (10)))),
 iq 13 (.pick (.s 8) (.c (.bool true)) (.s 12)),
 iq 14 (.mv (.s 13)),
 ig 15 14 false (.faddr 2 (.s 2)),
 ig 16 14 false (.load1 (.s 15)),
 ig 17 14 false (.lenL (.s 16)),
 ig 18 14 false (.bin .gtr (.s 17) (.c (.int .i64 (20)))),
 iq 19 (.pick (.s 14) (.c (.bool true)) (.s 18))])
 (.cond (.s 19)
 (.seq
 (.reg [iq 4 (.mv (.c (.int .i64 (0))))])
 .ret)
 .skip))
 (.seq
 (.reg [iq 20 (.mv (.s 1)),
 iq 21 (.bin .sub (.s 20) (.c (.int .i64 (1)))),
 iq 1 (.mv (.s 21))])
 (.seqj [1]
 (.seq
 (.reg [iq 5 (.mv (.c (.int .i64 (0))))])
 (.block 0
 (.loop [1, 2, 5]
 (.seqj [1, 2, 5]
 (.seq
 (.reg [iq 22 (.mv (.s 5)),
 iq 23 (.faddr 3 (.s 2)),
 iq 24 (.load1 (.s 23)),
 iq 25 (.lenL (.s 24)),
 iq 26 (.bin .lss (.s 22) (.s 25)),
 iq 27 (.mv (.s 26)),
 ig 28 27 true (.mv (.s 1)),
 ig 29 27 true (.bin .gtr (.s 28) (.c (.int .i64 (0)))),
 iq 30 (.pick (.s 27) (.s 29) (.c (.bool false)))])
 (.cond (.s 30)
 .skip
 (.exit 0)))
 (.seqj [1, 2, 5]
 (.block 1
 (.reg [iq 33 (.faddr 3 (.s 2)),
 iq 34 (.load1 (.s 33)),
 iq 35 (.mv (.s 5)),
 iq 36 (.iaddrS 4 (.s 34) (.s 35)),
 iq 37 (.loadn 4 (.s 36)),
 iq 38 (.mv (.s 1)),
 iq 39 (.call 6 [(.s 37), (.s 38)]),
 iq 1 (.mv (.s 39))]))
 (.reg [iq 31 (.mv (.s 5)),
 iq 32 (.bin .add (.s 31) (.c (.int .i64 (1)))),
 iq 5 (.mv (.s 32))]))))))
 (.seq
 (.reg [iq 40 (.mv (.s 1)),
 iq 4 (.mv (.s 40))])
 .ret))))) }
theorem cf6_ok : compFn Try.prog Try.f6 [[1, 2], [1], [1, 2, 5], [1, 2, 5], [1, 2, 5]] = some cf_spruelaw3_Few := by kernel_rfl
/- sprue/spruelaw3.Tree -/
def cf_spruelaw3_Tree : Eva.Fn := { ntmps := 118, res := [(.cn 6 4)], body :=
 (.seq
 (.reg [iq 3 (.box (.s 0)),
 iq 6 (.alloc [(.int .i64 (0)), (ofL []), .snil, .snil])])
 (.seq
 (.reg [iq 11 (.faddr 0 (.s 3)),
 iq 12 (.load1 (.s 11)),
 iq 13 (.call 17 [(.s 12), (.c (.int .i64 (9)))]),
 iq 14 (.bin .add (.c (.int .i64 (1))) (.s 13)),
 iq 7 (.mv (.s 14))])
 (.seqj [1, 2, 3, 6, 7]
 (.seq
 (.reg [iq 15 (.mv (.s 7)),
 iq 16 (.eq (.one .i) false (.s 15) (.c (.int .i64 (9)))),
 iq 17 (.mv (.s 16)),
 ig 18 17 true (.mv (.s 2)),
 ig 19 17 true (.lenL (.s 18)),
 ig 20 17 true (.eq (.one .i) false (.s 19) (.c (.int .i64 (0)))),
 iq 21 (.pick (.s 17) (.s 20) (.c (.bool false))),
 iq 22 (.mv (.s 21)),
 ig 23 22 false (.mv (.s 1)),
 ig 24 22 false (.bin .leq (.s 23) (.c (.int .i64 (1)))),
 ig 25 22 false (.mv (.s 24)),
 ig 26 25 true (.mv (.s 7)),
 ig 27 25 true (.bin .geq (.s 26) (.c (.int .i64 (4)))),
 ig 28 22 false (.pick (.s 25) (.s 27) (.c (.bool false))),
 ig 29 22 false (.mv (.s 28)),
 ig 30 29 true (.mv (.s 7)),
 ig 31 29 true (.bin .leq (.s 30) (.c (.int .i64 (8)))),
 ig 32 22 false (.pick (.s 29) (.s 31) (.c (.bool false))),
 iq 33 (.pick (.s 22) (.c (.bool true)) (.s 32))])
 (.cond (.s 33)
 (.reg [iq 7 (.mv (.c (.int .i64 (2))))])
 .skip))
 (.seq
 (.reg [iq 34 (.mv (.s 7)),
 iq 35 (.build [(.int .i64 (0)), (ofL []), .snil, .snil] [(0, 1, (.s 34))]),
 iq 8 (.alloc [(.int .i64 (0)), (ofL []), .snil, .snil]),
 iz (.store 4 (.s 8) (.s 35))])
 (.seqj [6, 8]
 (.seq
 (.reg [iq 36 (.mv (.s 7))])
 (.block 0
 (.seq
 (.reg [iq 38 (.eq (.one .i) false (.s 36) (.c (.int .i64 (9)))),
 iq 37 (.mv (.s 38))])
 (.cond (.s 37)
 (.reg [iq 39 (.mv (.s 2)),
 iq 40 (.faddr 1 (.s 3)),
 iq 41 (.load1 (.s 40)),
 iq 42 (.mv (.s 2)),
 iq 43 (.lenL (.s 42)),
 iq 44 (.call 17 [(.s 41), (.s 43)]),
 iq 45 (.iaddrS 1 (.s 39) (.s 44)),
 iq 46 (.load1 (.s 45)),
 iq 47 (.faddr 1 (.s 8)),
 iz (.store 1 (.s 47) (.s 46))])
 (.seqj [1, 2, 3, 6, 7, 8, 36, 48]
 (.seq
 (.reg [iq 49 (.eq (.one .i) false (.s 36) (.c (.int .i64 (4)))),
 iq 48 (.mv (.s 49))])
 (.cond (.s 48)
 .skip
 (.seq
 (.reg [iq 50 (.eq (.one .i) false (.s 36) (.c (.int .i64 (5)))),
 iq 48 (.mv (.s 50))])
 (.cond (.s 48)
 .skip
 (.reg [iq 51 (.eq (.one .i) false (.s 36) (.c (.int .i64 (6)))),
 iq 48 (.mv (.s 51))])))))
 (.cond (.s 48)
 (.seq
 (.reg [iq 52 (.loadn 4 (.s 3)),
 iq 53 (.call 18 [(.s 52), (.c (.int .i64 (0)))]),
 iq 54 (.mv (.s 1)),
 iq 55 (.bin .sub (.s 54) (.c (.int .i64 (1)))),
 iq 56 (.mv (.s 2)),
 iq 57 (.call 7 [(.s 53), (.s 55), (.s 56)]),
 iq 58 (.bsl 4 1 [(.int .i64 (0)), (ofL []), .snil, .snil] [(0, 4, (.s 57))]),
 iq 59 (.faddr 3 (.s 8)),
 iz (.store 1 (.s 59) (.s 58))])
 (.seq
 (.reg [iq 60 (.mv (.s 7)),
 iq 61 (.eq (.one .i) false (.s 60) (.c (.int .i64 (6)))),
 iq 62 (.mv (.s 61)),
 ig 63 62 true (.faddr 3 (.s 8)),
 ig 64 62 true (.load1 (.s 63)),
 ig 65 62 true (.iaddrS 4 (.s 64) (.c (.int .i64 (0)))),
 ig 66 62 true (.faddr 0 (.s 65)),
 ig 67 62 true (.load1 (.s 66)),
 ig 68 62 true (.eq (.one .i) false (.s 67) (.c (.int .i64 (6)))),
 iq 69 (.pick (.s 62) (.s 68) (.c (.bool false)))])
 (.cond (.s 69)
 (.seq
 (.reg [iq 70 (.faddr 3 (.s 8)),
 iq 71 (.load1 (.s 70)),
 iq 72 (.iaddrS 4 (.s 71) (.c (.int .i64 (0)))),
 iq 73 (.loadn 4 (.s 72)),
 iz (.store 4 (.s 6) (.s 73))])
 .ret)
 .skip)))
 (.seqj [1, 2, 3, 6, 7, 8, 74]
 (.seq
 (.reg [iq 75 (.eq (.one .i) false (.s 36) (.c (.int .i64 (7)))),
 iq 74 (.mv (.s 75))])
 (.cond (.s 74)
 .skip
 (.reg [iq 76 (.eq (.one .i) false (.s 36) (.c (.int .i64 (8)))),
 iq 74 (.mv (.s 76))])))
 (.cond (.s 74)
 (.seq
 (.reg [iq 9 (.mv (.c (.int .i64 (0))))])
 (.block 1
 (.loop [1, 2, 3, 6, 7, 8, 9]
 (.seqj [1, 2, 3, 6, 7, 8, 9]
 (.seq
 (.reg [iq 77 (.mv (.s 9)),
 iq 78 (.faddr 2 (.s 3)),
 iq 79 (.load1 (.s 78)),
 iq 80 (.lenL (.s 79)),
 iq 81 (.bin .lss (.s 77) (.s 80)),
 iq 82 (.mv (.s 81)),
 ig 83 82 true (.mv (.s 9)),
 ig 84 82 true (.bin .lss (.s 83) (.c (.int .i64 (4)))),
 iq 85 (.pick (.s 82) (.s 84) (.c (.bool false))),
 iq 86 (.mv (.s 85)),
 ig 87 86 false (.mv (.s 9)),
 ig 88 86 false (.eq (.one .i) false (.s 87) (.c (.int .i64 (0)))),
 ig 89 86 false (.mv (.s 88)),
 ig 90 89 true (.mv (.s 7)),
 ig 91 89 true (.eq (.one .i) false (.s 90) (.c (.int .i64 (8)))),
 ig 92 86 false (.pick (.s 89) (.s 91) (.c (.bool false))),
 iq 93 (.pick (.s 86) (.c (.bool true)) (.s 92))])
 (.cond (.s 93)
 .skip
 (.exit 1)))
 (.seqj [1, 2, 3, 6, 7, 8, 9]
 (.block 2
 (.seq
 (.reg [iq 10 (.mv (.c (ofL [117])))])
 (.seqj [1, 2, 3, 6, 7, 8, 9, 10]
 (.seq
 (.reg [iq 96 (.mv (.s 9)),
 iq 97 (.faddr 2 (.s 3)),
 iq 98 (.load1 (.s 97)),
 iq 99 (.lenL (.s 98)),
 iq 100 (.bin .lss (.s 96) (.s 99))])
 (.cond (.s 100)
 (.reg [iq 101 (.faddr 2 (.s 3)),
 iq 102 (.load1 (.s 101)),
 iq 103 (.mv (.s 9)),
 iq 104 (.iaddrS 1 (.s 102) (.s 103)),
 iq 105 (.load1 (.s 104)),
 iq 106 (.call 19 [(.s 105)]),
 iq 10 (.mv (.s 106))])
 .skip))
 (.drw [iq 107 (.loadn 4 (.s 8)),
 iq 108 (.mv (.s 10)),
 iq 109 (.loadn 4 (.s 3)),
 iq 110 (.mv (.s 9)),
 ⟨(some 111), (.call 18 [(.s 109), (.s 110)]), none, (some [8])⟩,
 iq 112 (.mv (.s 1)),
 iq 113 (.bin .sub (.s 112) (.c (.int .i64 (1)))),
 iq 114 (.mv (.s 2)),
 ⟨(some 115), (.call 7 [(.s 111), (.s 113), (.s 114)]), none, (some [8])⟩,
 ⟨(some 116), (.call 20 [(.s 107), (.s 108), (.s 115)]), none, (some [])⟩,
 iz (.store 4 (.s 8) (.s 116))] []))))
 (.reg [iq 94 (.mv (.s 9)),
 iq 95 (.bin .add (.s 94) (.c (.int .i64 (1)))),
 iq 9 (.mv (.s 95))]))))))
 .skip))))))))
 (.seq
 (.reg [iq 117 (.loadn 4 (.s 8)),
 iz (.store 4 (.s 6) (.s 117))])
 .ret)))))) }
theorem cf7_ok : compFn Try.prog Try.f7 [[1, 2, 3, 6, 7], [6, 8], [1, 2, 3, 6, 7, 8, 36, 48], [1, 2, 3, 6, 7, 8, 74], [1, 2, 3, 6, 7, 8, 9], [1, 2, 3, 6, 7, 8, 9], [1, 2, 3, 6, 7, 8, 9], [1, 2, 3, 6, 7, 8, 9, 10]] = some cf_spruelaw3_Tree := by kernel_rfl
/- sprue/spruelaw3.within -/
def cf_spruelaw3_within : Eva.Fn := { ntmps := 15, res := [(.s 4)], body :=
 (.seq
 (.reg [iq 4 (.mv (.c (.int .i64 (0))))])
 (.seq
 (.reg [iq 6 (.mv (.s 0)),
 iq 7 (.mv (.s 1)),
 iq 8 (.bin .rem (.s 6) (.s 7)),
 iq 5 (.mv (.s 8))])
 (.seqj [5]
 (.seq
 (.reg [iq 9 (.mv (.s 5)),
 iq 10 (.bin .lss (.s 9) (.c (.int .i64 (0))))])
 (.cond (.s 10)
 (.reg [iq 11 (.mv (.s 5)),
 iq 12 (.mv (.s 1)),
 iq 13 (.bin .add (.s 11) (.s 12)),
 iq 5 (.mv (.s 13))])
 .skip))
 (.seq
 (.reg [iq 14 (.mv (.s 5)),
 iq 4 (.mv (.s 14))])
 .ret)))) }
theorem cf17_ok : compFn Try.prog Try.f17 [[5]] = some cf_spruelaw3_within := by kernel_rfl
/- sprue/spruelaw3.kid -/
def cf_spruelaw3_kid : Eva.Fn := { ntmps := 25, res := [(.cn 4 4)], body :=
 (.seq
 (.reg [iq 2 (.box (.s 0)),
 iq 4 (.alloc [(.int .i64 (0)), (.int .i64 (0)), .snil, .snil])])
 (.seqj [1, 2, 4]
 (.seq
 (.reg [iq 5 (.faddr 3 (.s 2)),
 iq 6 (.load1 (.s 5)),
 iq 7 (.lenL (.s 6)),
 iq 8 (.eq (.one .i) false (.s 7) (.c (.int .i64 (0))))])
 (.cond (.s 8)
 (.seq
 (.reg [iq 9 (.faddr 1 (.s 2)),
 iq 10 (.load1 (.s 9)),
 iq 11 (.mv (.s 1)),
 iq 12 (.bin .add (.s 10) (.s 11)),
 iq 13 (.faddr 0 (.s 2)),
 iq 14 (.load1 (.s 13)),
 iq 15 (.build [(.int .i64 (0)), (.int .i64 (0)), .snil, .snil] [(0, 1, (.s 12)), (1, 1, (.s 14))]),
 iz (.store 4 (.s 4) (.s 15))])
 .ret)
 .skip))
 (.seq
 (.drw [iq 16 (.faddr 3 (.s 2)),
 iq 17 (.load1 (.s 16)),
 iq 18 (.mv (.s 1)),
 iq 19 (.faddr 3 (.s 2)),
 iq 20 (.load1 (.s 19)),
 iq 21 (.lenL (.s 20)),
 iq 22 (.bin .rem (.s 18) (.s 21)),
 iq 23 (.iaddrS 4 (.s 17) (.s 22)),
 iq 24 (.loadn 4 (.s 23)),
 iz (.store 4 (.s 4) (.s 24))] [])
 .ret))) }
theorem cf18_ok : compFn Try.prog Try.f18 [[1, 2, 4]] = some cf_spruelaw3_kid := by kernel_rfl
/- sprue/spruelaw3.Name -/
def cf_spruelaw3_Name : Eva.Fn := { ntmps := 8, res := [(.s 2)], body :=
 (.seq
 (.reg [iq 2 (.mv (.c (ofL [])))])
 (.seq
 (.reg [iq 3 (.bsl 1 7 [(ofL []), (ofL []), (ofL []), (ofL []), (ofL []), (ofL []), (ofL [])] [(0, 1, (.c (ofL [97]))), (1, 1, (.c (ofL [98]))), (2, 1, (.c (ofL [99]))), (3, 1, (.c (ofL [110, 97, 109, 101]))), (4, 1, (.c (ofL [110]))), (5, 1, (.c (ofL [73, 110, 116]))), (6, 1, (.c (ofL [116, 121, 112, 101])))]),
 iq 4 (.mv (.s 0)),
 iq 5 (.call 17 [(.s 4), (.c (.int .i64 (7)))]),
 iq 6 (.iaddrS 1 (.s 3) (.s 5)),
 iq 7 (.load1 (.s 6)),
 iq 2 (.mv (.s 7))])
 .ret)) }
theorem cf19_ok : compFn Try.prog Try.f19 [] = some cf_spruelaw3_Name := by kernel_rfl
/- sprue/spruelaw3.put -/
def cf_spruelaw3_put : Eva.Fn := { ntmps := 74, res := [(.cn 6 4)], body :=
 (.seq
 (.reg [iq 3 (.box (.s 0)),
 iq 5 (.box (.s 2)),
 iq 6 (.alloc [(.int .i64 (0)), (ofL []), .snil, .snil])])
 (.seq
 (.reg [iq 7 (.mv (.c (.int .i64 (0))))])
 (.seqj [1, 3, 5, 6, 7]
 (.block 0
 (.loop [1, 3, 5, 6, 7]
 (.seqj [1, 3, 5, 6, 7]
 (.seq
 (.reg [iq 10 (.mv (.s 7)),
 iq 11 (.faddr 2 (.s 3)),
 iq 12 (.load1 (.s 11)),
 iq 13 (.lenL (.s 12)),
 iq 14 (.bin .lss (.s 10) (.s 13)),
 iq 15 (.mv (.s 14)),
 ig 16 15 true (.faddr 2 (.s 3)),
 ig 17 15 true (.load1 (.s 16)),
 ig 18 15 true (.mv (.s 7)),
 ig 19 15 true (.iaddrS 1 (.s 17) (.s 18)),
 ig 20 15 true (.load1 (.s 19)),
 ig 21 15 true (.mv (.s 1)),
 ig 22 15 true (.bin .lss (.s 20) (.s 21)),
 iq 23 (.pick (.s 15) (.s 22) (.c (.bool false)))])
 (.cond (.s 23)
 .skip
 (.exit 0)))
 (.block 1
 (.reg [iq 24 (.mv (.s 7)),
 iq 25 (.bin .add (.s 24) (.c (.int .i64 (1)))),
 iq 7 (.mv (.s 25))])))))
 (.seqj [1, 3, 5, 6, 7]
 (.seq
 (.reg [iq 26 (.mv (.s 7)),
 iq 27 (.faddr 2 (.s 3)),
 iq 28 (.load1 (.s 27)),
 iq 29 (.lenL (.s 28)),
 iq 30 (.bin .lss (.s 26) (.s 29)),
 iq 31 (.mv (.s 30)),
 ig 32 31 true (.faddr 2 (.s 3)),
 ig 33 31 true (.load1 (.s 32)),
 ig 34 31 true (.mv (.s 7)),
 ig 35 31 true (.iaddrS 1 (.s 33) (.s 34)),
 ig 36 31 true (.load1 (.s 35)),
 ig 37 31 true (.mv (.s 1)),
 ig 38 31 true (.eq (.one .s) false (.s 36) (.s 37)),
 iq 39 (.pick (.s 31) (.s 38) (.c (.bool false)))])
 (.cond (.s 39)
 (.seq
 (.reg [iq 40 (.loadn 4 (.s 3)),
 iz (.store 4 (.s 6) (.s 40))])
 .ret)
 .skip))
 (.seq
 (.reg [iq 41 (.bsl 1 0 [] []),
 iq 42 (.faddr 2 (.s 3)),
 iq 43 (.load1 (.s 42)),
 iq 44 (.mv (.s 7)),
 iq 45 (.cutL 1 (.s 43) none (some (.s 44)) none),
 iq 46 (.app 1 (.s 41) (.s 45)),
 iq 8 (.mv (.s 46))])
 (.seq
 (.reg [iq 47 (.bsl 4 0 [] []),
 iq 48 (.faddr 3 (.s 3)),
 iq 49 (.load1 (.s 48)),
 iq 50 (.mv (.s 7)),
 iq 51 (.cutL 4 (.s 49) none (some (.s 50)) none),
 iq 52 (.app 4 (.s 47) (.s 51)),
 iq 9 (.mv (.s 52))])
 (.seq
 (.drw [iq 53 (.mv (.s 8)),
 iq 54 (.mv (.s 1)),
 iq 55 (.bsl 1 1 [(ofL [])] [(0, 1, (.s 54))]),
 iq 56 (.app 1 (.s 53) (.s 55)),
 iq 57 (.faddr 2 (.s 3)),
 iq 58 (.load1 (.s 57)),
 iq 59 (.mv (.s 7)),
 iq 60 (.cutL 1 (.s 58) (some (.s 59)) none none),
 iq 61 (.app 1 (.s 56) (.s 60)),
 iq 62 (.mv (.s 9)),
 iq 63 (.loadn 4 (.s 5)),
 iq 64 (.bsl 4 1 [(.int .i64 (0)), (ofL []), .snil, .snil] [(0, 4, (.s 63))]),
 iq 65 (.app 4 (.s 62) (.s 64)),
 iq 66 (.faddr 3 (.s 3)),
 iq 67 (.load1 (.s 66)),
 iq 68 (.mv (.s 7)),
 iq 69 (.cutL 4 (.s 67) (some (.s 68)) none none),
 iq 70 (.app 4 (.s 65) (.s 69)),
 iq 71 (.faddr 2 (.s 3)),
 iz (.store 1 (.s 71) (.s 61)),
 iq 72 (.faddr 3 (.s 3)),
 iz (.store 1 (.s 72) (.s 70))] [([53], [57]), ([53], [5]), ([53], [66]), ([56], [5]), ([56], [66]), ([62], [66])])
 (.seq
 (.reg [iq 73 (.loadn 4 (.s 3)),
 iz (.store 4 (.s 6) (.s 73))])
 .ret)))))))) }
theorem cf20_ok : compFn Try.prog Try.f20 [[1, 3, 5, 6, 7], [1, 3, 5, 6, 7], [1, 3, 5, 6, 7], [1, 3, 5, 6, 7]] = some cf_spruelaw3_put := by kernel_rfl
/- (*sprue/cons.Table).Main -/
def cf_cons_Table_Main : Eva.Fn := { ntmps := 7, res := [(.s 2)], body :=
 (.seq
 (.reg [iq 2 (.mv (.c (.int .i64 (0))))])
 (.seq
 (.reg [iq 3 (.mv (.s 0)),
 iq 4 (.nilck (.s 3)),
 iq 5 (.faddr 3 (.s 4)),
 iq 6 (.load1 (.s 5)),
 iq 2 (.mv (.s 6))])
 .ret)) }
theorem cf14_ok : compFn Try.prog Try.f14 [] = some cf_cons_Table_Main := by kernel_rfl
noncomputable def tabD : BT :=
 (.node 39 (.node 21 (.node 12 (.node 6 (.node 4 (.leaf 4 (fnD 1000000 cf_spruelaw8_KindsOpts))
 (.node 5 (.leaf 5 (fnD 1000000 cf_spruelaw8_known))
 (.leaf 6 (fnD 1000000 cf_spruelaw3_Few))))
 (.node 8 (.node 7 (.leaf 7 (fnD 1000000 cf_spruelaw3_Tree))
 (.leaf 8 (fnD 1000000 cf_cons_New)))
 (.node 10 (.leaf 10 (fnD 1000000 cf_cons_Table_Sig))
 (.leaf 12 (fnD 1000000 cf_kinds_Of)))))
 (.node 17 (.node 15 (.node 14 (.leaf 14 (fnD 1000000 cf_cons_Table_Main))
 (.leaf 15 (fnD 1000000 cf_cons_Table_Add)))
 (.node 16 (.leaf 16 (fnD 1000000 cf_cons_Table_Node))
 (.leaf 17 (fnD 1000000 cf_spruelaw3_within))))
 (.node 19 (.node 18 (.leaf 18 (fnD 1000000 cf_spruelaw3_kid))
 (.leaf 19 (fnD 1000000 cf_spruelaw3_Name)))
 (.node 20 (.leaf 20 (fnD 1000000 cf_spruelaw3_put))
 (.leaf 21 (fnD 1000000 cf_shape_Check))))))
 (.node 30 (.node 26 (.node 22 (.leaf 22 (fnD 1000000 cf_slices_Clone_Type))
 (.node 25 (.leaf 25 (fnD 1000000 cf_slices_Clone_int))
 (.leaf 26 (fnD 1000000 cf_shape_Builtin))))
 (.node 28 (.node 27 (.leaf 27 (fnD 1000000 cf_kinds_many))
 (.leaf 28 (fnD 1000000 cf_sub_Le)))
 (.node 29 (.leaf 29 (fnD 1000000 cf_cons_Table_Open))
 (.leaf 30 (fnD 1000000 cf_kinds_asker_builtin)))))
 (.node 35 (.node 33 (.node 32 (.leaf 32 (fnD 1000000 cf_cons_Table_add))
 (.leaf 33 (fnD 1000000 cf_slices_Clone_string)))
 (.node 34 (.leaf 34 (fnD 1000000 cf_shape_types))
 (.leaf 35 (fnD 1000000 cf_shape_named))))
 (.node 37 (.node 36 (.leaf 36 (fnD 1000000 cf_shape_looker_may))
 (.leaf 37 (fnD 1000000 cf_shape_looker_sigs)))
 (.node 38 (.leaf 38 (fnD 1000000 cf_shape_Finite))
 (.leaf 39 (fnD 1000000 cf_slices_ContainsFunc_Type)))))))
 (.node 65 (.node 54 (.node 50 (.node 40 (.leaf 40 (fnD 1000000 cf_shape_every))
 (.node 41 (.leaf 41 (fnD 1000000 cf_shape_looker_opts))
 (.leaf 50 (fnD 1000000 cf_scan_Ident))))
 (.node 52 (.node 51 (.leaf 51 (hookE containsG))
 (.leaf 52 (fnD 1000000 cf_cons_Table_Len)))
 (.node 53 (.leaf 53 (fnD 1000000 cf_sub_asker_fits))
 (.leaf 54 (fnD 1000000 cf_kinds_asker_base)))))
 (.node 61 (.node 56 (.node 55 (.leaf 55 (fnD 1000000 cf_kinds_asker_are))
 (.leaf 56 (fnD 1000000 cf_kinds_asker_kid)))
 (.node 57 (.leaf 57 (fnD 1000000 cf_kinds_asker_get))
 (.leaf 61 (fnD 1000000 cf_cons_Table_lay))))
 (.node 63 (.node 62 (.leaf 62 (fnD 1000000 cf_shape_kids))
 (.leaf 63 (fnD 1000000 cf_shape_fields)))
 (.node 64 (.leaf 64 (fnD 1000000 cf_shape_looker_all))
 (.leaf 65 (fnD 1000000 cf_shape_ends))))))
 (.node 78 (.node 73 (.node 66 (.leaf 66 (fnD 1000000 cf_slices_IndexFunc_Type))
 (.node 72 (.leaf 72 (fnD 1000000 cf_scan_digit))
 (.leaf 73 (fnD 1000000 cf_scan_row))))
 (.node 76 (.node 75 (.leaf 75 (fnD 1000000 cf_sub_asker_open))
 (.leaf 76 (fnD 1000000 cf_cons_Table_Base)))
 (.node 77 (.leaf 77 (fnD 1000000 cf_cons_Table_Opt))
 (.leaf 78 (fnD 1000000 cf_cons_keyed)))))
 (.node 84 (.node 80 (.node 79 (.leaf 79 (fnD 1000000 cf_shape_ends_1))
 (.leaf 80 (fnD 1000000 cf_shape_ends_2)))
 (.node 83 (.leaf 83 (fnD 1000000 cf_scan_front))
 (.leaf 84 (fnD 1000000 cf_scan_row_1))))
 (.node 87 (.node 85 (.leaf 85 (fnD 1000000 cf_scan_letter))
 (.leaf 87 (fnD 1000000 cf_sub_asker_by)))
 (.node 88 (.leaf 88 (fnD 1000000 cf_sub_asker_kids))
 (.leaf 93 (fnD 1000000 cf_slices_Index_string))))))))
abbrev n_spruelaw8_KindsOpts : Nat := 4
theorem at_spruelaw8_KindsOpts : tabT tabD 4 = some (evFn 1000000 cf_spruelaw8_KindsOpts) := by kernel_rfl
abbrev n_spruelaw8_known : Nat := 5
theorem at_spruelaw8_known : tabT tabD 5 = some (evFn 1000000 cf_spruelaw8_known) := by kernel_rfl
abbrev n_spruelaw3_Few : Nat := 6
theorem at_spruelaw3_Few : tabT tabD 6 = some (evFn 1000000 cf_spruelaw3_Few) := by kernel_rfl
abbrev n_spruelaw3_Tree : Nat := 7
theorem at_spruelaw3_Tree : tabT tabD 7 = some (evFn 1000000 cf_spruelaw3_Tree) := by kernel_rfl
abbrev n_cons_New : Nat := 8
theorem at_cons_New : tabT tabD 8 = some (evFn 1000000 cf_cons_New) := by kernel_rfl
abbrev n_cons_Table_Sig : Nat := 10
theorem at_cons_Table_Sig : tabT tabD 10 = some (evFn 1000000 cf_cons_Table_Sig) := by kernel_rfl
abbrev n_kinds_Of : Nat := 12
theorem at_kinds_Of : tabT tabD 12 = some (evFn 1000000 cf_kinds_Of) := by kernel_rfl
abbrev n_cons_Table_Main : Nat := 14
theorem at_cons_Table_Main : tabT tabD 14 = some (evFn 1000000 cf_cons_Table_Main) := by kernel_rfl
abbrev n_cons_Table_Add : Nat := 15
theorem at_cons_Table_Add : tabT tabD 15 = some (evFn 1000000 cf_cons_Table_Add) := by kernel_rfl
abbrev n_cons_Table_Node : Nat := 16
theorem at_cons_Table_Node : tabT tabD 16 = some (evFn 1000000 cf_cons_Table_Node) := by kernel_rfl
abbrev n_spruelaw3_within : Nat := 17
theorem at_spruelaw3_within : tabT tabD 17 = some (evFn 1000000 cf_spruelaw3_within) := by kernel_rfl
abbrev n_spruelaw3_kid : Nat := 18
theorem at_spruelaw3_kid : tabT tabD 18 = some (evFn 1000000 cf_spruelaw3_kid) := by kernel_rfl
abbrev n_spruelaw3_Name : Nat := 19
theorem at_spruelaw3_Name : tabT tabD 19 = some (evFn 1000000 cf_spruelaw3_Name) := by kernel_rfl
abbrev n_spruelaw3_put : Nat := 20
theorem at_spruelaw3_put : tabT tabD 20 = some (evFn 1000000 cf_spruelaw3_put) := by kernel_rfl
abbrev n_shape_Check : Nat := 21
theorem at_shape_Check : tabT tabD 21 = some (evFn 1000000 cf_shape_Check) := by kernel_rfl
abbrev n_slices_Clone_Type : Nat := 22
theorem at_slices_Clone_Type : tabT tabD 22 = some (evFn 1000000 cf_slices_Clone_Type) := by kernel_rfl
abbrev n_slices_Clone_int : Nat := 25
theorem at_slices_Clone_int : tabT tabD 25 = some (evFn 1000000 cf_slices_Clone_int) := by kernel_rfl
abbrev n_shape_Builtin : Nat := 26
theorem at_shape_Builtin : tabT tabD 26 = some (evFn 1000000 cf_shape_Builtin) := by kernel_rfl
abbrev n_kinds_many : Nat := 27
theorem at_kinds_many : tabT tabD 27 = some (evFn 1000000 cf_kinds_many) := by kernel_rfl
abbrev n_sub_Le : Nat := 28
theorem at_sub_Le : tabT tabD 28 = some (evFn 1000000 cf_sub_Le) := by kernel_rfl
abbrev n_cons_Table_Open : Nat := 29
theorem at_cons_Table_Open : tabT tabD 29 = some (evFn 1000000 cf_cons_Table_Open) := by kernel_rfl
abbrev n_kinds_asker_builtin : Nat := 30
theorem at_kinds_asker_builtin : tabT tabD 30 = some (evFn 1000000 cf_kinds_asker_builtin) := by kernel_rfl
abbrev n_cons_Table_add : Nat := 32
theorem at_cons_Table_add : tabT tabD 32 = some (evFn 1000000 cf_cons_Table_add) := by kernel_rfl
abbrev n_slices_Clone_string : Nat := 33
theorem at_slices_Clone_string : tabT tabD 33 = some (evFn 1000000 cf_slices_Clone_string) := by kernel_rfl
abbrev n_shape_types : Nat := 34
theorem at_shape_types : tabT tabD 34 = some (evFn 1000000 cf_shape_types) := by kernel_rfl
abbrev n_shape_named : Nat := 35
theorem at_shape_named : tabT tabD 35 = some (evFn 1000000 cf_shape_named) := by kernel_rfl
abbrev n_shape_looker_may : Nat := 36
theorem at_shape_looker_may : tabT tabD 36 = some (evFn 1000000 cf_shape_looker_may) := by kernel_rfl
abbrev n_shape_looker_sigs : Nat := 37
theorem at_shape_looker_sigs : tabT tabD 37 = some (evFn 1000000 cf_shape_looker_sigs) := by kernel_rfl
abbrev n_shape_Finite : Nat := 38
theorem at_shape_Finite : tabT tabD 38 = some (evFn 1000000 cf_shape_Finite) := by kernel_rfl
abbrev n_slices_ContainsFunc_Type : Nat := 39
theorem at_slices_ContainsFunc_Type : tabT tabD 39 = some (evFn 1000000 cf_slices_ContainsFunc_Type) := by kernel_rfl
abbrev n_shape_every : Nat := 40
theorem at_shape_every : tabT tabD 40 = some (evFn 1000000 cf_shape_every) := by kernel_rfl
abbrev n_shape_looker_opts : Nat := 41
theorem at_shape_looker_opts : tabT tabD 41 = some (evFn 1000000 cf_shape_looker_opts) := by kernel_rfl
abbrev n_scan_Ident : Nat := 50
theorem at_scan_Ident : tabT tabD 50 = some (evFn 1000000 cf_scan_Ident) := by kernel_rfl
abbrev n_strings_Contains : Nat := 51
theorem at_strings_Contains : tabT tabD 51 = some (hookE containsG).b := by kernel_rfl
abbrev n_cons_Table_Len : Nat := 52
theorem at_cons_Table_Len : tabT tabD 52 = some (evFn 1000000 cf_cons_Table_Len) := by kernel_rfl
abbrev n_sub_asker_fits : Nat := 53
theorem at_sub_asker_fits : tabT tabD 53 = some (evFn 1000000 cf_sub_asker_fits) := by kernel_rfl
abbrev n_kinds_asker_base : Nat := 54
theorem at_kinds_asker_base : tabT tabD 54 = some (evFn 1000000 cf_kinds_asker_base) := by kernel_rfl
abbrev n_kinds_asker_are : Nat := 55
theorem at_kinds_asker_are : tabT tabD 55 = some (evFn 1000000 cf_kinds_asker_are) := by kernel_rfl
abbrev n_kinds_asker_kid : Nat := 56
theorem at_kinds_asker_kid : tabT tabD 56 = some (evFn 1000000 cf_kinds_asker_kid) := by kernel_rfl
abbrev n_kinds_asker_get : Nat := 57
theorem at_kinds_asker_get : tabT tabD 57 = some (evFn 1000000 cf_kinds_asker_get) := by kernel_rfl
abbrev n_cons_Table_lay : Nat := 61
theorem at_cons_Table_lay : tabT tabD 61 = some (evFn 1000000 cf_cons_Table_lay) := by kernel_rfl
abbrev n_shape_kids : Nat := 62
theorem at_shape_kids : tabT tabD 62 = some (evFn 1000000 cf_shape_kids) := by kernel_rfl
abbrev n_shape_fields : Nat := 63
theorem at_shape_fields : tabT tabD 63 = some (evFn 1000000 cf_shape_fields) := by kernel_rfl
abbrev n_shape_looker_all : Nat := 64
theorem at_shape_looker_all : tabT tabD 64 = some (evFn 1000000 cf_shape_looker_all) := by kernel_rfl
abbrev n_shape_ends : Nat := 65
theorem at_shape_ends : tabT tabD 65 = some (evFn 1000000 cf_shape_ends) := by kernel_rfl
abbrev n_slices_IndexFunc_Type : Nat := 66
theorem at_slices_IndexFunc_Type : tabT tabD 66 = some (evFn 1000000 cf_slices_IndexFunc_Type) := by kernel_rfl
abbrev n_scan_digit : Nat := 72
theorem at_scan_digit : tabT tabD 72 = some (evFn 1000000 cf_scan_digit) := by kernel_rfl
abbrev n_scan_row : Nat := 73
theorem at_scan_row : tabT tabD 73 = some (evFn 1000000 cf_scan_row) := by kernel_rfl
abbrev n_sub_asker_open : Nat := 75
theorem at_sub_asker_open : tabT tabD 75 = some (evFn 1000000 cf_sub_asker_open) := by kernel_rfl
abbrev n_cons_Table_Base : Nat := 76
theorem at_cons_Table_Base : tabT tabD 76 = some (evFn 1000000 cf_cons_Table_Base) := by kernel_rfl
abbrev n_cons_Table_Opt : Nat := 77
theorem at_cons_Table_Opt : tabT tabD 77 = some (evFn 1000000 cf_cons_Table_Opt) := by kernel_rfl
abbrev n_cons_keyed : Nat := 78
theorem at_cons_keyed : tabT tabD 78 = some (evFn 1000000 cf_cons_keyed) := by kernel_rfl
abbrev n_shape_ends_1 : Nat := 79
theorem at_shape_ends_1 : tabT tabD 79 = some (evFn 1000000 cf_shape_ends_1) := by kernel_rfl
abbrev n_shape_ends_2 : Nat := 80
theorem at_shape_ends_2 : tabT tabD 80 = some (evFn 1000000 cf_shape_ends_2) := by kernel_rfl
abbrev n_scan_front : Nat := 83
theorem at_scan_front : tabT tabD 83 = some (evFn 1000000 cf_scan_front) := by kernel_rfl
abbrev n_scan_row_1 : Nat := 84
theorem at_scan_row_1 : tabT tabD 84 = some (evFn 1000000 cf_scan_row_1) := by kernel_rfl
abbrev n_scan_letter : Nat := 85
theorem at_scan_letter : tabT tabD 85 = some (evFn 1000000 cf_scan_letter) := by kernel_rfl
abbrev n_sub_asker_by : Nat := 87
theorem at_sub_asker_by : tabT tabD 87 = some (evFn 1000000 cf_sub_asker_by) := by kernel_rfl
abbrev n_sub_asker_kids : Nat := 88
theorem at_sub_asker_kids : tabT tabD 88 = some (evFn 1000000 cf_sub_asker_kids) := by kernel_rfl
abbrev n_slices_Index_string : Nat := 93
theorem at_slices_Index_string : tabT tabD 93 = some (evFn 1000000 cf_slices_Index_string) := by kernel_rfl
theorem mixed : Try.prog.follows .mixedOrders = true := by kernel_rfl
theorem tabD_B {ρ : Nat → Value} {W : World} (hρ : ∀ i, (ρ i).oneCell' = true) (hm : hasM 0 W) : tabD.all fun i e => BodyOK Try.prog ρ ⟨W.heap.size, W⟩ i e.b :=
 ⟨⟨⟨⟨⟨fnD_B cf4_ok Try.func4 (by decide) hρ mixed, ⟨fnD_B cf5_ok Try.func5 (by decide) hρ mixed, fnD_B cf6_ok Try.func6 (by decide) hρ mixed⟩⟩, ⟨⟨fnD_B cf7_ok Try.func7 (by decide) hρ mixed, fnD_B cf8_ok Try.func8 (by decide) hρ mixed⟩, ⟨fnD_B cf10_ok Try.func10 (by decide) hρ mixed, fnD_B cf12_ok Try.func12 (by decide) hρ mixed⟩⟩⟩, ⟨⟨⟨fnD_B cf14_ok Try.func14 (by decide) hρ mixed, fnD_B cf15_ok Try.func15 (by decide) hρ mixed⟩, ⟨fnD_B cf16_ok Try.func16 (by decide) hρ mixed, fnD_B cf17_ok Try.func17 (by decide) hρ mixed⟩⟩, ⟨⟨fnD_B cf18_ok Try.func18 (by decide) hρ mixed, fnD_B cf19_ok Try.func19 (by decide) hρ mixed⟩, ⟨fnD_B cf20_ok Try.func20 (by decide) hρ mixed, fnD_B cf21_ok Try.func21 (by decide) hρ mixed⟩⟩⟩⟩, ⟨⟨⟨fnD_B cf22_ok Try.func22 (by decide) hρ mixed, ⟨fnD_B cf25_ok Try.func25 (by decide) hρ mixed, fnD_B cf26_ok Try.func26 (by decide) hρ mixed⟩⟩, ⟨⟨fnD_B cf27_ok Try.func27 (by decide) hρ mixed, fnD_B cf28_ok Try.func28 (by decide) hρ mixed⟩, ⟨fnD_B cf29_ok Try.func29 (by decide) hρ mixed, fnD_B cf30_ok Try.func30 (by decide) hρ mixed⟩⟩⟩, ⟨⟨⟨fnD_B cf32_ok Try.func32 (by decide) hρ mixed, fnD_B cf33_ok Try.func33 (by decide) hρ mixed⟩, ⟨fnD_B cf34_ok Try.func34 (by decide) hρ mixed, fnD_B cf35_ok Try.func35 (by decide) hρ mixed⟩⟩, ⟨⟨fnD_B cf36_ok Try.func36 (by decide) hρ mixed, fnD_B cf37_ok Try.func37 (by decide) hρ mixed⟩, ⟨fnD_B cf38_ok Try.func38 (by decide) hρ mixed, fnD_B cf39_ok Try.func39 (by decide) hρ mixed⟩⟩⟩⟩⟩, ⟨⟨⟨⟨fnD_B cf40_ok Try.func40 (by decide) hρ mixed, ⟨fnD_B cf41_ok Try.func41 (by decide) hρ mixed, fnD_B cf50_ok Try.func50 (by decide) hρ mixed⟩⟩, ⟨⟨containsE_B Try.func51 (by kernel_rfl) (by decide) hm fun s sub m w hs hm => Try.strings_Contains s sub m w hs hm, fnD_B cf52_ok Try.func52 (by decide) hρ mixed⟩, ⟨fnD_B cf53_ok Try.func53 (by decide) hρ mixed, fnD_B cf54_ok Try.func54 (by decide) hρ mixed⟩⟩⟩, ⟨⟨⟨fnD_B cf55_ok Try.func55 (by decide) hρ mixed, fnD_B cf56_ok Try.func56 (by decide) hρ mixed⟩, ⟨fnD_B cf57_ok Try.func57 (by decide) hρ mixed, fnD_B cf61_ok Try.func61 (by decide) hρ mixed⟩⟩, ⟨⟨fnD_B cf62_ok Try.func62 (by decide) hρ mixed, fnD_B cf63_ok Try.func63 (by decide) hρ mixed⟩, ⟨fnD_B cf64_ok Try.func64 (by decide) hρ mixed, fnD_B cf65_ok Try.func65 (by decide) hρ mixed⟩⟩⟩⟩, ⟨⟨⟨fnD_B cf66_ok Try.func66 (by decide) hρ mixed, ⟨fnD_B cf72_ok Try.func72 (by decide) hρ mixed, fnD_B cf73_ok Try.func73 (by decide) hρ mixed⟩⟩, ⟨⟨fnD_B cf75_ok Try.func75 (by decide) hρ mixed, fnD_B cf76_ok Try.func76 (by decide) hρ mixed⟩, ⟨fnD_B cf77_ok Try.func77 (by decide) hρ mixed, fnD_B cf78_ok Try.func78 (by decide) hρ mixed⟩⟩⟩, ⟨⟨⟨fnD_B cf79_ok Try.func79 (by decide) hρ mixed, fnD_B cf80_ok Try.func80 (by decide) hρ mixed⟩, ⟨fnD_B cf83_ok Try.func83 (by decide) hρ mixed, fnD_B cf84_ok Try.func84 (by decide) hρ mixed⟩⟩, ⟨⟨fnD_B cf85_ok Try.func85 (by decide) hρ mixed, fnD_B cf87_ok Try.func87 (by decide) hρ mixed⟩, ⟨fnD_B cf88_ok Try.func88 (by decide) hρ mixed, fnD_B cf93_ok Try.func93 (by decide) hρ mixed⟩⟩⟩⟩⟩⟩
end Go.Proofs.Ytlfnhkdeocbimaa
