/- The code of functions, as the evaluator has it; a table of them. No condition. -/
import Derived.Test.YtcahllomeaimeaaRows
import Derived.Test.YtcahllomeaimeaaShelf
import Derived.WalkKit
import Derived.Test.YtcahllomeaimeaaEvd9
namespace Go.Proofs.Ytcahllomeaimeaa
open Eva Go.RowKit
set_option maxRecDepth 100000
def Kd :Eva.Fn:={ntmps:=167,res:=[.s 8],body:=
 (.seq
 (.reg [iq 4 (.box (.s 0)),iq 5 (.box (.s 1)),iq 6 (.box (.s 2)),iq 8 (.mv (.c (.bool false)))])
 (.seqj [3,4,5,6]
 (.seq
 (.reg [iq 33 (.call 4 []),iq 34 (.not (.s 33))])
 (.cond (.s 34)
 (.seq
 (.reg [iq 8 (.mv (.c (.bool false)))])
 .ret)
 .skip))
 (.seqj [3,4,5,6]
 (.seq
 (.reg [iq 35 (.loadn 4 (.s 4)),iq 36 (.call 5 [.s 35,(.c (.int .i64 20))]),iq 37 (.eq (.one .i) false (.s 36) (.c (.int .i64 0))),im 38 37,ig 39 38 false (.loadn 4 (.s 5)),ig 40 38 false (.call 5 [.s 39,(.c (.int .i64 20))]),ig 41 38 false (.eq (.one .i) false (.s 40) (.c (.int .i64 0))),iq 42 (.pick (.s 38) (.c (.bool true)) (.s 41)),im 43 42,ig 44 43 false (.loadn 4 (.s 6)),ig 45 43 false (.call 5 [.s 44,(.c (.int .i64 20))]),ig 46 43 false (.eq (.one .i) false (.s 45) (.c (.int .i64 0))),iq 47 (.pick (.s 43) (.c (.bool true)) (.s 46))])
 (.cond (.s 47)
 (.seq
 (.reg [iq 8 (.mv (.c (.bool true)))])
 .ret)
 .skip))
 (.seq
 (.drw [iq 48 (.loadn 4 (.s 4)),iq 49 (.call 6 [.s 48,(.c (.int .i64 3)),(.c .snil)]),iq 50 (.loadn 4 (.s 5)),iq 51 (.call 6 [.s 50,(.c (.int .i64 3)),(.c .snil)]),iq 52 (.loadn 4 (.s 6)),⟨(some 53),(.call 6 [.s 52,(.c (.int .i64 3)),(.c .snil)]),none,(some [])⟩,iq 9 (.alloc [(.int .i64 0),(ofL []), .snil, .snil]),iq 10 (.alloc [(.int .i64 0),(ofL []), .snil, .snil]),iq 11 (.alloc [(.int .i64 0),(ofL []), .snil, .snil]),iz (.store 4 (.s 9) (.s 49)),iz (.store 4 (.s 10) (.s 51)),iz (.store 4 (.s 11) (.s 53))] [])
 (.seq
 (.reg [iq 54 (.loadn 4 (.s 11)),iq 55 (.loadn 4 (.s 9)),iq 56 (.loadn 4 (.s 10)),iq 57 (.bsl 4 2 [(.int .i64 0),(ofL []), .snil, .snil,(.int .i64 0),(ofL []), .snil, .snil] [(0,4,(.s 55)),(4,4,(.s 56))]),iq 58 (.loadn 4 (.s 11)),iq 59 (.build [(ofL []), .snil,(.int .i64 0),(ofL []), .snil, .snil] [(0,1,(.c (ofL [102]))),(1,1,(.s 57)),(2,4,(.s 58))]),iq 60 (.bsl 6 1 [(ofL []), .snil,(.int .i64 0),(ofL []), .snil, .snil] [(0,6,(.s 59))]),iq 61 (.build [(.int .i64 0),(ofL []), .snil, .snil, .snil, .snil] [(0,4,(.s 54)),(5,1,(.s 60))]),iq 12 (.alloc [(.int .i64 0),(ofL []), .snil, .snil, .snil, .snil]),iz (.store 6 (.s 12) (.s 61))])
 (.seq
 (.reg [iq 63 (.loadn 6 (.s 12)),iq 64 (.call 7 [.s 63]),im 62 64,ie 65 0 62,ie 66 1 62,im 13 65,im 14 66])
 (.seq
 (.reg [iq 68 (.loadn 6 (.s 12)),iq 69 (.call 8 [.s 68]),im 67 69,ie 70 0 67,ie 71 1 67,im 15 70,im 16 71])
 (.seqj [3,13,15]
 (.seq
 (.reg [im 72 14,iq 73 (.eq (.one .i) true (.s 72) (.c (.int .i64 0))),im 74 73,ig 75 74 false (.mv (.s 16)),ig 76 74 false (.eq (.one .i) true (.s 75) (.c (.int .i64 0))),iq 77 (.pick (.s 74) (.c (.bool true)) (.s 76))])
 (.cond (.s 77)
 (.seq
 (.reg [iq 8 (.mv (.c (.bool true)))])
 .ret)
 .skip))
 (.seq
 (.reg [im 79 13,iq 80 (.call 9 [.s 79,(.c (ofL [102]))]),im 78 80,ie 81 0 78,ie 82 1 78,ie 83 2 78,im 17 81,im 18 82,im 19 83])
 (.seq
 (.drw [im 84 17,iq 85 (.iaddrS 1 (.s 84) (.c (.int .i64 0))),il 86 85,im 87 17,iq 88 (.iaddrS 1 (.s 87) (.c (.int .i64 1))),il 89 88,im 90 18,iq 91 (.bsl 1 3 [(.int .i64 0),(.int .i64 0),(.int .i64 0)] [(0,1,(.s 86)),(1,1,(.s 89)),(2,1,(.s 90))]),im 20 91] [])
 (.seq
 (.drw [im 92 20,im 93 3,⟨(some 94),(.call 10 [.s 93,(.c (.int .i64 3))]),none,(some [])⟩,iq 95 (.iaddrS 1 (.s 92) (.s 94)),il 96 95,im 97 20,im 98 3,iq 99 (.bin .quo (.s 98) (.c (.int .i64 3))),⟨(some 100),(.call 10 [.s 99,(.c (.int .i64 3))]),none,(some [95])⟩,iq 101 (.iaddrS 1 (.s 97) (.s 100)),il 102 101,im 21 96,im 22 102] [])
 (.seq
 (.reg [im 104 13,im 105 21,im 106 22,iq 107 (.bsl 1 2 [(.int .i64 0),(.int .i64 0)] [(0,1,(.s 105)),(1,1,(.s 106))]),iq 108 (.call 11 [.s 104,(.c (ofL [102])), .s 107]),im 103 108,ie 109 0 103,ie 110 1 103,im 23 109,im 24 110])
 (.seq
 (.reg [im 112 15,im 113 21,im 114 17,iq 115 (.iaddrS 1 (.s 114) (.c (.int .i64 0))),il 116 115,iq 117 (.call 12 [.s 112, .s 113, .s 116]),im 111 117,ie 118 0 111,ie 119 1 111,im 25 118,im 26 119])
 (.seq
 (.reg [im 121 15,im 122 22,im 123 17,iq 124 (.iaddrS 1 (.s 123) (.c (.int .i64 1))),il 125 124,iq 126 (.call 12 [.s 121, .s 122, .s 125]),im 120 126,ie 127 0 120,ie 128 1 120,im 27 127,im 28 128])
 (.seq
 (.reg [im 130 13,im 131 21,iq 132 (.bsl 1 1 [(.int .i64 0)] [(0,1,(.s 131))]),iq 133 (.call 11 [.s 130,(.c (ofL [102])), .s 132]),im 129 133,ie 134 0 129,ie 135 1 129,im 29 134,im 30 135])
 (.seq
 (.reg [im 137 13,im 138 21,im 139 22,iq 140 (.bsl 1 2 [(.int .i64 0),(.int .i64 0)] [(0,1,(.s 138)),(1,1,(.s 139))]),iq 141 (.call 11 [.s 137,(.c (ofL [103])), .s 140]),im 136 141,ie 142 0 136,ie 143 1 136,im 31 142,im 32 143])
 (.seqj [18,23,24,25,27]
 (.seq
 (.reg [im 144 30,iq 145 (.eq (.one .i) true (.s 144) (.c (.int .i64 18))),im 146 145,ig 147 146 false (.mv (.s 32)),ig 148 146 false (.eq (.one .i) true (.s 147) (.c (.int .i64 15))),iq 149 (.pick (.s 146) (.c (.bool true)) (.s 148))])
 (.cond (.s 149)
 (.seq
 (.reg [iq 8 (.mv (.c (.bool false)))])
 .ret)
 .skip))
 (.seqj [23,24]
 (.seq
 (.reg [im 150 25,im 151 150,ig 152 151 true (.mv (.s 27)),iq 153 (.pick (.s 151) (.s 152) (.c (.bool false)))])
 (.cond (.s 153)
 (.seq
 (.reg [im 154 24,iq 155 (.eq (.one .i) false (.s 154) (.c (.int .i64 0))),im 156 155,ig 157 156 true (.mv (.s 23)),ig 158 156 true (.mv (.s 18)),ig 159 156 true (.eq (.one .i) false (.s 157) (.s 158)),iq 160 (.pick (.s 156) (.s 159) (.c (.bool false))),im 8 160])
 .ret)
 .skip))
 (.seq
 (.reg [im 161 24,iq 162 (.eq (.one .i) false (.s 161) (.c (.int .i64 17))),im 163 162,ig 164 163 true (.mv (.s 23)),ig 165 163 true (.eq (.one .i) false (.s 164) (.c (.int .i64 0))),iq 166 (.pick (.s 163) (.s 165) (.c (.bool false))),im 8 166])
 .ret)))))))))))))))))))}
theorem Jps :compFn Try.prog Try.f3 [[3,4,5,6],[3,4,5,6],[3,13,15],[18,23,24,25,27],[23,24]]=some Kd:=by kernel_rfl
def KJ :Eva.Fn:={ntmps:=37,res:=[.s 0],body:=
 (.seq
 (.reg [iq 0 (.mv (.c (.bool false)))])
 (.seq
 (.reg [iq 8 (.build [(.int .i64 0),(ofL []), .snil, .snil] [(0,1,(.c (.int .i64 2)))]),iq 9 (.build [(.int .i64 0),(ofL []), .snil, .snil, .snil, .snil] [(0,4,(.s 8))]),iq 10 (.call 7 [.s 9]),im 7 10,ie 11 0 7,ie 12 1 7,im 1 11,im 2 12])
 (.seqj [1]
 (.seq
 (.reg [im 13 1,iq 14 (.eq (.one .p) false (.s 13) (.c .pnil))])
 (.cond (.s 14)
 (.seq
 (.reg [iq 0 (.mv (.c (.bool false)))])
 .ret)
 .skip))
 (.seq
 (.reg [im 16 1,iq 17 (.bsl 1 1 [(.int .i64 0)] [(0,1,(.c (.int .i64 0)))]),iq 18 (.call 11 [.s 16,(.c (ofL [108,101,110])), .s 17]),im 15 18,ie 19 0 15,ie 20 1 15,im 3 19,im 4 20])
 (.seq
 (.reg [im 22 1,iq 23 (.bsl 1 2 [(.int .i64 0),(.int .i64 0)] [(0,1,(.c (.int .i64 0))),(1,1,(.c (.int .i64 0)))]),iq 24 (.call 11 [.s 22,(.c (ofL [97,100,100])), .s 23]),im 21 24,ie 25 0 21,ie 26 1 21,im 5 25,im 6 26])
 (.seq
 (.reg [im 27 4,iq 28 (.eq (.one .i) false (.s 27) (.c (.int .i64 17))),im 29 28,ig 30 29 true (.mv (.s 6)),ig 31 29 true (.eq (.one .i) false (.s 30) (.c (.int .i64 0))),iq 32 (.pick (.s 29) (.s 31) (.c (.bool false))),im 33 32,ig 34 33 true (.mv (.s 5)),ig 35 33 true (.eq (.one .i) false (.s 34) (.c (.int .i64 0))),iq 36 (.pick (.s 33) (.s 35) (.c (.bool false))),im 0 36])
 .ret))))))}
theorem Jpt :compFn Try.prog Try.f4 [[1]]=some KJ:=by kernel_rfl
def Yh :Eva.Fn:={ntmps:=115,res:=[.s 2, .s 3],body:=
 (.seq
 (.reg [iq 1 (.box (.s 0)),iq 2 (.mv (.c .pnil)),ik 3 0])
 (.seqj [1]
 (.seq
 (.reg [iq 19 (.loadn 6 (.s 1)),iq 20 (.call 17 [.s 19]),im 4 20])
 (.seq
 (.reg [im 21 4,iq 22 (.eq (.one .i) true (.s 21) (.c (.int .i64 0)))])
 (.cond (.s 22)
 (.seq
 (.reg [im 23 4,iq 2 (.mv (.c .pnil)),im 3 23])
 .ret)
 .skip)))
 (.seq
 (.reg [⟨(some 24), .mkmap,none,none⟩,⟨(some 25), .mkmap,none,none⟩,⟨(some 26), .mkmap,none,none⟩,iq 27 (.build [.snil, .mnil, .mnil,(.int .i64 0), .mnil] [(1,1,(.s 24)),(2,1,(.s 25)),(4,1,(.s 26))]),iq 28 (.box (.s 27)),im 5 28])
 (.seqj [1,5]
 (.seq
 (.reg [ia 29 4 1,il 30 29,iq 31 (.lenL (.s 30)),ik 32 0])
 (.block 0
 (.loop [1,5,30,31,32]
 (.seq
 (.reg [iq 33 (.bin .lss (.s 32) (.s 31))])
 (.seqj [1,5,30,31,32]
 (.cond (.s 33)
 .skip
 (.exit 0))
 (.seqj [1,5,30,31,32]
 (.block 1
 (.seq
 (.reg [iq 34 (.iaddrS 5 (.s 30) (.s 32)),iq 35 (.loadn 5 (.s 34)),iq 7 (.alloc [(ofL []),(.int .i64 0),(ofL []), .snil, .snil]),iz (.store 5 (.s 7) (.s 35))])
 (.seq
 (.reg [im 37 5,ia 38 1 7,iq 39 (.loadn 4 (.s 38)),iq 40 (.call 18 [.s 37, .s 39]),im 36 40,ie 41 0 36,ie 42 1 36,im 8 41,im 9 42])
 (.seqj [1,5,7,8,30,31,32]
 (.seq
 (.reg [im 43 9,iq 44 (.eq (.one .i) true (.s 43) (.c (.int .i64 0)))])
 (.cond (.s 44)
 (.seq
 (.reg [im 45 9,iq 2 (.mv (.c .pnil)),im 3 45])
 .ret)
 .skip))
 (.drw [im 46 5,iq 47 (.nilck (.s 46)),ia 48 2 47,il 49 48,ia 50 0 7,il 51 50,im 52 8,iz (.mupd (.one .s) (.s 49) (.s 51) (.s 52))] [])))))
 (.reg [iq 53 (.bin .add (.s 32) (.c (.int .i64 1))),im 32 53])))))))
 (.seq
 (.reg [im 55 5,ia 56 0 1,iq 57 (.loadn 4 (.s 56)),iq 58 (.call 18 [.s 55, .s 57]),im 54 58,ie 59 0 54,ie 60 1 54,im 10 59,im 11 60])
 (.seqj [1,5,10]
 (.seq
 (.reg [im 61 11,iq 62 (.eq (.one .i) true (.s 61) (.c (.int .i64 0)))])
 (.cond (.s 62)
 (.seq
 (.reg [im 63 11,iq 2 (.mv (.c .pnil)),im 3 63])
 .ret)
 .skip))
 (.seq
 (.reg [im 64 5,im 65 10,iq 66 (.nilck (.s 64)),ia 67 3 66,iz (.store 1 (.s 67) (.s 65))])
 (.seqj [5]
 (.seq
 (.reg [ia 68 5 1,il 69 68,iq 70 (.lenL (.s 69)),ik 71 0])
 (.block 2
 (.loop [5,69,70,71]
 (.seq
 (.reg [iq 72 (.bin .lss (.s 71) (.s 70))])
 (.seqj [5,69,70,71]
 (.cond (.s 72)
 .skip
 (.exit 2))
 (.seqj [5,69,70,71]
 (.block 3
 (.seq
 (.reg [iq 73 (.iaddrS 6 (.s 69) (.s 71)),iq 74 (.loadn 6 (.s 73)),iq 13 (.alloc [(ofL []), .snil,(.int .i64 0),(ofL []), .snil, .snil]),iz (.store 6 (.s 13) (.s 74))])
 (.seq
 (.reg [ia 75 1 13,il 76 75,iq 77 (.lenL (.s 76)),iq 78 (.bin .add (.s 77) (.c (.int .i64 1))),iq 79 (.mksl 1 [(.int .i64 0)] (.c (.int .i64 0)) (.s 78)),im 14 79])
 (.seqj [5,13,14,69,70,71]
 (.seq
 (.drw [ia 80 1 13,il 81 80,iq 82 (.call 19 [.s 81]),ia 83 2 13,iq 84 (.loadn 4 (.s 83)),iq 85 (.bsl 4 1 [(.int .i64 0),(ofL []), .snil, .snil] [(0,4,(.s 84))]),iq 86 (.app 4 (.s 82) (.s 85)),iq 87 (.lenL (.s 86)),ik 88 0] [])
 (.block 4
 (.loop [5,13,14,69,70,71,86,87,88]
 (.seq
 (.reg [iq 89 (.bin .lss (.s 88) (.s 87))])
 (.seqj [5,13,14,69,70,71,86,87,88]
 (.cond (.s 89)
 .skip
 (.exit 4))
 (.seqj [5,13,14,69,70,71,86,87,88]
 (.block 5
 (.seq
 (.reg [iq 90 (.iaddrS 4 (.s 86) (.s 88)),iq 91 (.loadn 4 (.s 90)),iq 16 (.alloc [(.int .i64 0),(ofL []), .snil, .snil]),iz (.store 4 (.s 16) (.s 91))])
 (.seq
 (.reg [im 93 5,iq 94 (.loadn 4 (.s 16)),iq 95 (.call 18 [.s 93, .s 94]),im 92 95,ie 96 0 92,ie 97 1 92,im 17 96,im 18 97])
 (.seqj [5,13,14,17,69,70,71,86,87,88]
 (.seq
 (.reg [im 98 18,iq 99 (.eq (.one .i) true (.s 98) (.c (.int .i64 0)))])
 (.cond (.s 99)
 (.seq
 (.reg [im 100 18,iq 2 (.mv (.c .pnil)),im 3 100])
 .ret)
 .skip))
 (.reg [im 101 14,im 102 17,iq 103 (.bsl 1 1 [(.int .i64 0)] [(0,1,(.s 102))]),iq 104 (.app 1 (.s 101) (.s 103)),im 14 104])))))
 (.reg [iq 105 (.bin .add (.s 88) (.c (.int .i64 1))),im 88 105])))))))
 (.drw [im 106 5,iq 107 (.nilck (.s 106)),ia 108 4 107,il 109 108,ia 110 0 13,il 111 110,im 112 14,iz (.mupd (.one .s) (.s 109) (.s 111) (.s 112))] [])))))
 (.reg [iq 113 (.bin .add (.s 71) (.c (.int .i64 1))),im 71 113])))))))
 (.seq
 (.reg [im 114 5,im 2 114,ik 3 0])
 .ret)))))))))}
theorem Jpu :compFn Try.prog Try.f7 [[1],[1,5],[1,5,30,31,32],[1,5,30,31,32],[1,5,30,31,32],[1,5,7,8,30,31,32],[1,5,10],[5],[5,69,70,71],[5,69,70,71],[5,69,70,71],[5,13,14,69,70,71],[5,13,14,69,70,71,86,87,88],[5,13,14,69,70,71,86,87,88],[5,13,14,69,70,71,86,87,88],[5,13,14,17,69,70,71,86,87,88]]=some Yh:=by kernel_rfl
def Qk :Eva.Fn:={ntmps:=79,res:=[.s 2],body:=
 (.seq
 (.reg [iq 1 (.box (.s 0)),ik 2 0])
 (.seqj [1]
 (.seq
 (.reg [ia 12 4 1,il 13 12,iq 14 (.lenL (.s 13)),iq 15 (.bin .gtr (.s 14) (.c (.int .i64 12))),im 16 15,ig 17 16 false (.faddr 5 (.s 1)),ig 18 16 false (.load1 (.s 17)),ig 19 16 false (.lenL (.s 18)),ig 20 16 false (.bin .gtr (.s 19) (.c (.int .i64 12))),iq 21 (.pick (.s 16) (.c (.bool true)) (.s 20))])
 (.cond (.s 21)
 (.seq
 (.reg [ik 2 3])
 .ret)
 .skip))
 (.seqj [1]
 (.seq
 (.reg [ia 22 4 1,il 23 22,iq 24 (.call 30 [.s 23]),im 3 24])
 (.seq
 (.reg [im 25 3,iq 26 (.eq (.one .i) true (.s 25) (.c (.int .i64 0)))])
 (.cond (.s 26)
 (.seq
 (.reg [im 27 3,im 2 27])
 .ret)
 .skip)))
 (.seq
 (.reg [iq 28 (.loadn 6 (.s 1)),iq 29 (.call 31 [.s 28]),iq 30 (.build [.mnil,(.int .i64 0)] [(0,1,(.s 29))]),iq 31 (.box (.s 30)),im 4 31])
 (.seqj [1,4]
 (.seq
 (.reg [ia 32 4 1,il 33 32,iq 34 (.lenL (.s 33)),ik 35 0])
 (.block 0
 (.loop [1,4,33,34,35]
 (.seq
 (.reg [iq 36 (.bin .lss (.s 35) (.s 34))])
 (.seqj [1,4,33,34,35]
 (.cond (.s 36)
 .skip
 (.exit 0))
 (.seqj [1,4,33,34,35]
 (.block 1
 (.seq
 (.reg [iq 37 (.iaddrS 5 (.s 33) (.s 35)),iq 38 (.loadn 5 (.s 37)),iq 6 (.alloc [(ofL []),(.int .i64 0),(ofL []), .snil, .snil]),iz (.store 5 (.s 6) (.s 38))])
 (.seq
 (.reg [im 39 4,ia 40 1 6,iq 41 (.loadn 4 (.s 40)),iq 42 (.call 32 [.s 39, .s 41,(.c (.int .i64 1))]),im 7 42])
 (.seq
 (.reg [im 43 7,iq 44 (.eq (.one .i) true (.s 43) (.c (.int .i64 0)))])
 (.cond (.s 44)
 (.seq
 (.reg [im 45 7,im 2 45])
 .ret)
 .skip)))))
 (.reg [iq 46 (.bin .add (.s 35) (.c (.int .i64 1))),im 35 46])))))))
 (.seqj [1,4]
 (.seq
 (.reg [im 47 4,ia 48 0 1,iq 49 (.loadn 4 (.s 48)),iq 50 (.call 32 [.s 47, .s 49,(.c (.int .i64 1))]),im 8 50])
 (.seq
 (.reg [im 51 8,iq 52 (.eq (.one .i) true (.s 51) (.c (.int .i64 0)))])
 (.cond (.s 52)
 (.seq
 (.reg [im 53 8,im 2 53])
 .ret)
 .skip)))
 (.seqj [1,4]
 (.seq
 (.reg [im 54 4,ia 55 5 1,il 56 55,iq 57 (.call 33 [.s 54, .s 56]),im 9 57])
 (.seq
 (.reg [im 58 9,iq 59 (.eq (.one .i) true (.s 58) (.c (.int .i64 0)))])
 (.cond (.s 59)
 (.seq
 (.reg [im 60 9,im 2 60])
 .ret)
 .skip)))
 (.seqj [1,4]
 (.seq
 (.reg [ia 61 4 1,il 62 61,iq 63 (.lenL (.s 62)),ik 64 0])
 (.block 2
 (.loop [1,4,62,63,64]
 (.seq
 (.reg [iq 65 (.bin .lss (.s 64) (.s 63))])
 (.seqj [1,4,62,63,64]
 (.cond (.s 65)
 .skip
 (.exit 2))
 (.seqj [1,4,62,63,64]
 (.block 3
 (.seq
 (.reg [iq 66 (.iaddrS 5 (.s 62) (.s 64)),iq 67 (.loadn 5 (.s 66)),iq 11 (.alloc [(ofL []),(.int .i64 0),(ofL []), .snil, .snil]),iz (.store 5 (.s 11) (.s 67))])
 (.seq
 (.reg [iq 68 (.loadn 6 (.s 1)),ia 69 1 11,iq 70 (.loadn 4 (.s 69)),iq 71 (.call 34 [.s 68, .s 70]),iq 72 (.not (.s 71))])
 (.cond (.s 72)
 (.seq
 (.reg [ik 2 14])
 .ret)
 .skip))))
 (.reg [iq 73 (.bin .add (.s 64) (.c (.int .i64 1))),im 64 73])))))))
 (.seqj []
 (.seq
 (.reg [iq 74 (.loadn 6 (.s 1)),iq 75 (.call 36 [.s 74]),im 76 4,iq 77 (.mkfn 37 [.s 76] []),iq 78 (.call 35 [.s 75, .s 77])])
 (.cond (.s 78)
 (.seq
 (.reg [ik 2 17])
 .ret)
 .skip))
 (.seq
 (.reg [ik 2 0])
 .ret))))))))))}
theorem Jnl :compFn Try.prog Try.f17 [[1],[1],[1,4],[1,4,33,34,35],[1,4,33,34,35],[1,4,33,34,35],[1,4],[1,4],[1,4],[1,4,62,63,64],[1,4,62,63,64],[1,4,62,63,64],[]]=some Qk:=by kernel_rfl
def Ql :Eva.Fn:={ntmps:=39,res:=[.s 2],body:=
 (.seq
 (.reg [ik 2 0])
 (.seqj []
 (.seq
 (.reg [im 5 0,iq 6 (.lenL (.s 5)),ik 7 0])
 (.block 0
 (.loop [0,5,6,7]
 (.seq
 (.reg [iq 8 (.bin .lss (.s 7) (.s 6))])
 (.seqj [0,5,6,7]
 (.cond (.s 8)
 .skip
 (.exit 0))
 (.seqj [0,5,6,7]
 (.block 1
 (.seq
 (.reg [im 9 7,iq 10 (.iaddrS 5 (.s 5) (.s 7)),iq 11 (.loadn 5 (.s 10)),iq 4 (.alloc [(ofL []),(.int .i64 0),(ofL []), .snil, .snil]),im 3 9,iz (.store 5 (.s 4) (.s 11))])
 (.block 2
 (.seq
 (.reg [ia 13 0 4,il 14 13,iq 15 (.call 47 [.s 14]),iq 16 (.not (.s 15)),im 17 16,ig 18 17 false (.faddr 0 (.s 4)),ig 19 17 false (.load1 (.s 18)),ig 20 17 false (.bin .add (.c (ofL [32])) (.s 19)),ig 21 17 false (.bin .add (.s 20) (.c (ofL [32]))),ig 22 17 false (.call 48 [(.c (ofL [32,66,111,111,108,32,73,110,116,32,84,101,120,116,32,76,105,115,116,32,77,97,112,32,79,112,116,32,85,110,105,111,110,32])), .s 21]),iq 23 (.pick (.s 17) (.c (.bool true)) (.s 22)),im 12 23])
 (.cond (.s 12)
 (.seq
 (.reg [ik 2 15])
 .ret)
 (.seq
 (.drw [im 25 3,iq 26 (.bin .gtr (.s 25) (.c (.int .i64 0))),im 27 26,ig 28 27 true (.mv (.s 0)),ig 29 27 true (.mv (.s 3)),ig 30 27 true (.bin .sub (.s 29) (.c (.int .i64 1))),ig 31 27 true (.iaddrS 5 (.s 28) (.s 30)),ig 32 27 true (.faddr 0 (.s 31)),ig 33 27 true (.load1 (.s 32)),ig 34 27 true (.faddr 0 (.s 4)),ig 35 27 true (.load1 (.s 34)),ig 36 27 true (.bin .geq (.s 33) (.s 35)),iq 37 (.pick (.s 27) (.s 36) (.c (.bool false))),im 24 37] [])
 (.cond (.s 24)
 (.seq
 (.reg [ik 2 6])
 .ret)
 .skip)))))))
 (.reg [iq 38 (.bin .add (.s 7) (.c (.int .i64 1))),im 7 38])))))))
 (.seq
 (.reg [ik 2 0])
 .ret)))}
theorem Jnm :compFn Try.prog Try.f30 [[],[0,5,6,7],[0,5,6,7],[0,5,6,7]]=some Ql:=by kernel_rfl
def Qh :Eva.Fn:={ntmps:=23,res:=[.s 2],body:=
 (.seq
 (.reg [iq 2 (.mv (.c (.bool false)))])
 (.seq
 (.reg [im 3 0,iq 4 (.eq (.one .s) true (.s 3) (.c (ofL []))),im 5 4,ig 6 5 true (.mv (.s 0)),ig 7 5 true (.lenS (.s 6)),ig 8 5 true (.bin .leq (.s 7) (.c (.int .i64 16))),iq 9 (.pick (.s 5) (.s 8) (.c (.bool false))),im 10 9,ig 11 10 true (.mv (.s 0)),ig 12 10 true (.idxS (.s 11) (.c (.int .i64 0))),ig 13 10 true (.call 70 [.s 12]),ig 14 10 true (.not (.s 13)),iq 15 (.pick (.s 10) (.s 14) (.c (.bool false))),im 16 15,ig 17 16 true (.mv (.s 0)),ig 18 16 true (.call 71 [.s 17]),ig 19 16 true (.mv (.s 0)),ig 20 16 true (.lenS (.s 19)),ig 21 16 true (.eq (.one .i) false (.s 18) (.s 20)),iq 22 (.pick (.s 16) (.s 21) (.c (.bool false))),im 2 22])
 .ret))}
theorem Jnn :compFn Try.prog Try.f47 []=some Qh:=by kernel_rfl
def Qi :Eva.Fn:={ntmps:=9,res:=[.s 2],body:=
 (.seq
 (.reg [iq 2 (.mv (.c (.bool false)))])
 (.seq
 (.reg [im 3 0,iq 4 (.bin .geq (.s 3) (.c (.int .u8 48))),im 5 4,ig 6 5 true (.mv (.s 0)),ig 7 5 true (.bin .leq (.s 6) (.c (.int .u8 57))),iq 8 (.pick (.s 5) (.s 7) (.c (.bool false))),im 2 8])
 .ret))}
theorem Jno :compFn Try.prog Try.f70 []=some Qi:=by kernel_rfl
def YF :Eva.Fn:={ntmps:=5,res:=[.s 2],body:=
 (.seq
 (.reg [ik 2 0])
 (.seq
 (.reg [im 3 0,iq 4 (.call 81 [.s 3,(.c (.fn 82 [] []))]),im 2 4])
 .ret))}
theorem Jnp :compFn Try.prog Try.f71 []=some YF:=by kernel_rfl
def Q2 :Eva.Fn:={ntmps:=20,res:=[.s 4],body:=
 (.seq
 (.reg [ik 4 0])
 (.seqj [0]
 (.seq
 (.reg [im 6 0,iq 7 (.rngS (.s 6))])
 (.block 0
 (.loop [0,1,7]
 (.seq
 (.reg [iq 8 (.nextS (.s 7)),ie 9 0 8])
 (.seqj [0,1,7,8]
 (.cond (.s 9)
 .skip
 (.exit 0))
 (.block 1
 (.seq
 (.reg [ie 10 1 8,im 5 10])
 (.seq
 (.reg [im 11 1,im 12 0,im 13 5,iq 14 (.idxS (.s 12) (.s 13)),iq 15 (.callv (.s 11) [.s 14]),iq 16 (.not (.s 15))])
 (.cond (.s 16)
 (.seq
 (.reg [im 17 5,im 4 17])
 .ret)
 .skip)))))))))
 (.seq
 (.reg [im 18 0,iq 19 (.lenS (.s 18)),im 4 19])
 .ret)))}
theorem Jnq :compFn Try.prog Try.f81 [[0],[0,1,7],[0,1,7,8]]=some Q2:=by kernel_rfl
def Q3 :Eva.Fn:={ntmps:=9,res:=[.s 2],body:=
 (.seq
 (.reg [iq 2 (.mv (.c (.bool false)))])
 (.seq
 (.reg [im 3 0,iq 4 (.call 83 [.s 3]),im 5 4,ig 6 5 false (.mv (.s 0)),ig 7 5 false (.call 70 [.s 6]),iq 8 (.pick (.s 5) (.c (.bool true)) (.s 7)),im 2 8])
 .ret))}
theorem Jnr :compFn Try.prog Try.f82 []=some Q3:=by kernel_rfl
def Ks :Eva.Fn:={ntmps:=15,res:=[.s 2],body:=
 (.seq
 (.reg [iq 2 (.mv (.c (.bool false)))])
 (.seq
 (.reg [im 3 0,iq 4 (.eq (.one .i) false (.s 3) (.c (.int .u8 95))),im 5 4,ig 6 5 false (.mv (.s 0)),ig 7 5 false (.bin .or (.s 6) (.c (.int .u8 32))),ig 8 5 false (.bin .geq (.s 7) (.c (.int .u8 97))),ig 9 5 false (.mv (.s 8)),ig 10 9 true (.mv (.s 0)),ig 11 9 true (.bin .or (.s 10) (.c (.int .u8 32))),ig 12 9 true (.bin .leq (.s 11) (.c (.int .u8 122))),ig 13 5 false (.pick (.s 9) (.s 12) (.c (.bool false))),iq 14 (.pick (.s 5) (.c (.bool true)) (.s 13)),im 2 14])
 .ret))}
theorem Jns :compFn Try.prog Try.f83 []=some Ks:=by kernel_rfl
def Qm :Eva.Fn:={ntmps:=21,res:=[.s 2],body:=
 (.seq
 (.reg [iq 1 (.box (.s 0)),iq 2 (.mv (.c .mnil))])
 (.seq
 (.reg [⟨(some 6), .mkmap,none,none⟩,im 3 6])
 (.seqj [3]
 (.seq
 (.reg [ia 7 4 1,il 8 7,iq 9 (.lenL (.s 8)),ik 10 0])
 (.block 0
 (.loop [3,8,9,10]
 (.seq
 (.reg [iq 11 (.bin .lss (.s 10) (.s 9))])
 (.seqj [3,8,9,10]
 (.cond (.s 11)
 .skip
 (.exit 0))
 (.seqj [3,8,9,10]
 (.block 1
 (.seq
 (.reg [iq 12 (.iaddrS 5 (.s 8) (.s 10)),iq 13 (.loadn 5 (.s 12)),iq 5 (.alloc [(ofL []),(.int .i64 0),(ofL []), .snil, .snil]),iz (.store 5 (.s 5) (.s 13))])
 (.reg [im 14 3,ia 15 0 5,il 16 15,ia 17 1 5,iq 18 (.loadn 4 (.s 17)),iz (.mupd (.one .s) (.s 14) (.s 16) (.s 18))])))
 (.reg [iq 19 (.bin .add (.s 10) (.c (.int .i64 1))),im 10 19])))))))
 (.seq
 (.reg [im 20 3,im 2 20])
 .ret))))}
theorem Jnt :compFn Try.prog Try.f31 [[3],[3,8,9,10],[3,8,9,10],[3,8,9,10]]=some Qm:=by kernel_rfl
def Ky :Eva.Fn:={ntmps:=113,res:=[.s 6],body:=
 (.seq
 (.reg [iq 4 (.box (.s 1)),ik 6 0])
 (.seq
 (.reg [im 14 0,iq 15 (.nilck (.s 14)),ia 16 1 15,il 17 16,iq 18 (.bin .add (.s 17) (.c (.int .i64 1))),iq 19 (.nilck (.s 14)),ia 20 1 19,iz (.store 1 (.s 20) (.s 18))])
 (.seq
 (.drw [im 22 0,iq 23 (.nilck (.s 22)),ia 24 0 23,il 25 24,ia 26 1 4,il 27 26,iq 28 (.lookup (.one .s) (.agg [(.int .i64 0),(ofL []), .snil, .snil]) true (.s 25) (.s 27)),im 21 28,ie 29 0 21,ie 30 1 21,iq 7 (.alloc [(.int .i64 0),(ofL []), .snil, .snil]),iz (.store 4 (.s 7) (.s 29)),im 8 30] [])
 (.seq
 (.reg [ia 31 0 4,il 32 31,iq 33 (.eq (.one .i) false (.s 32) (.c (.int .i64 7))),im 34 33,ig 35 34 false (.faddr 0 (.s 4)),ig 36 34 false (.load1 (.s 35)),ig 37 34 false (.eq (.one .i) false (.s 36) (.c (.int .i64 8))),iq 38 (.pick (.s 34) (.c (.bool true)) (.s 37)),im 9 38])
 (.seqj [0,2,4]
 (.block 0
 (.seq
 (.reg [im 40 0,iq 41 (.nilck (.s 40)),ia 42 1 41,il 43 42,iq 44 (.bin .gtr (.s 43) (.c (.int .i64 400))),im 39 44])
 (.cond (.s 39)
 (.seq
 (.reg [ik 6 3])
 .ret)
 (.seq
 (.reg [im 46 2,iq 47 (.bin .gtr (.s 46) (.c (.int .i64 12))),im 45 47])
 (.cond (.s 45)
 (.seq
 (.reg [ik 6 13])
 .ret)
 (.seq
 (.reg [ia 49 0 4,il 50 49,iq 51 (.bin .lss (.s 50) (.c (.int .i64 1))),im 52 51,ig 53 52 false (.faddr 0 (.s 4)),ig 54 52 false (.load1 (.s 53)),ig 55 52 false (.bin .gtr (.s 54) (.c (.int .i64 9))),iq 56 (.pick (.s 52) (.c (.bool true)) (.s 55)),im 48 56])
 (.cond (.s 48)
 (.seq
 (.reg [ik 6 1])
 .ret)
 (.seq
 (.drw [ia 58 3 4,il 59 58,iq 60 (.lenL (.s 59)),iq 61 (.loadn 4 (.s 4)),⟨(some 62),(.call 59 [.s 61]),none,(some [58])⟩,iq 63 (.eq (.one .i) true (.s 60) (.s 62)),im 64 63,ig 65 64 false (.faddr 1 (.s 4)),ig 66 64 false (.load1 (.s 65)),ig 67 64 false (.eq (.one .s) true (.s 66) (.c (ofL []))),ig 68 64 false (.mv (.s 67)),ig 69 68 true (.faddr 0 (.s 4)),ig 70 68 true (.load1 (.s 69)),ig 71 68 true (.eq (.one .i) true (.s 70) (.c (.int .i64 9))),ig 72 64 false (.pick (.s 68) (.s 71) (.c (.bool false))),iq 73 (.pick (.s 64) (.c (.bool true)) (.s 72)),im 74 73,ig 75 74 false (.faddr 2 (.s 4)),ig 76 74 false (.load1 (.s 75)),ig 77 74 false (.lenL (.s 76)),ig 78 74 false (.bin .gtr (.s 77) (.c (.int .i64 0))),ig 79 74 false (.mv (.s 78)),ig 80 79 true (.mv (.s 9)),ig 81 79 true (.not (.s 80)),ig 82 74 false (.pick (.s 79) (.s 81) (.c (.bool false))),iq 83 (.pick (.s 74) (.c (.bool true)) (.s 82)),im 57 83] [])
 (.cond (.s 57)
 (.seq
 (.reg [ik 6 12])
 .ret)
 (.seq
 (.reg [ia 85 0 4,il 86 85,iq 87 (.eq (.one .i) false (.s 86) (.c (.int .i64 9))),im 88 87,ig 89 88 true (.mv (.s 8)),ig 90 88 true (.not (.s 89)),iq 91 (.pick (.s 88) (.s 90) (.c (.bool false))),im 84 91])
 (.cond (.s 84)
 (.seq
 (.reg [ik 6 15])
 .ret)
 .skip)))))))))))
 (.seqj [0,2,4]
 (.seq
 (.reg [iq 92 (.loadn 4 (.s 4)),iq 93 (.call 60 [.s 92]),im 10 93])
 (.seq
 (.reg [im 94 10,iq 95 (.eq (.one .i) true (.s 94) (.c (.int .i64 0)))])
 (.cond (.s 95)
 (.seq
 (.reg [im 96 10,im 6 96])
 .ret)
 .skip)))
 (.seqj []
 (.seq
 (.reg [ia 97 3 4,il 98 97,iq 99 (.lenL (.s 98)),ik 100 0])
 (.block 1
 (.loop [0,2,98,99,100]
 (.seq
 (.reg [iq 101 (.bin .lss (.s 100) (.s 99))])
 (.seqj [0,2,98,99,100]
 (.cond (.s 101)
 .skip
 (.exit 1))
 (.seqj [0,2,98,99,100]
 (.block 2
 (.seq
 (.reg [iq 102 (.iaddrS 4 (.s 98) (.s 100)),iq 103 (.loadn 4 (.s 102)),iq 12 (.alloc [(.int .i64 0),(ofL []), .snil, .snil]),iz (.store 4 (.s 12) (.s 103))])
 (.seq
 (.reg [im 104 0,iq 105 (.loadn 4 (.s 12)),im 106 2,iq 107 (.bin .add (.s 106) (.c (.int .i64 1))),iq 108 (.call 32 [.s 104, .s 105, .s 107]),im 13 108])
 (.seq
 (.reg [im 109 13,iq 110 (.eq (.one .i) true (.s 109) (.c (.int .i64 0)))])
 (.cond (.s 110)
 (.seq
 (.reg [im 111 13,im 6 111])
 .ret)
 .skip)))))
 (.reg [iq 112 (.bin .add (.s 100) (.c (.int .i64 1))),im 100 112])))))))
 (.seq
 (.reg [ik 6 0])
 .ret))))))))}
theorem Jnu :compFn Try.prog Try.f32 [[0,2,4],[0,2,4],[],[0,2,98,99,100],[0,2,98,99,100],[0,2,98,99,100]]=some Ky:=by kernel_rfl
def J9 :Eva.Fn:={ntmps:=15,res:=[.s 2],body:=
 (.seq
 (.reg [iq 1 (.box (.s 0)),ik 2 0])
 (.seqj []
 (.seq
 (.reg [ia 3 0 1,il 4 3])
 (.block 0
 (.seqj [1,4,5]
 (.seq
 (.reg [iq 6 (.eq (.one .i) false (.s 4) (.c (.int .i64 4))),im 5 6])
 (.cond (.s 5)
 .skip
 (.seq
 (.reg [iq 7 (.eq (.one .i) false (.s 4) (.c (.int .i64 5))),im 5 7])
 (.cond (.s 5)
 .skip
 (.reg [iq 8 (.eq (.one .i) false (.s 4) (.c (.int .i64 6))),im 5 8])))))
 (.cond (.s 5)
 (.seq
 (.reg [ik 2 1])
 .ret)
 (.seqj [1,9]
 (.seq
 (.reg [iq 10 (.eq (.one .i) false (.s 4) (.c (.int .i64 7))),im 9 10])
 (.cond (.s 9)
 .skip
 (.reg [iq 11 (.eq (.one .i) false (.s 4) (.c (.int .i64 8))),im 9 11])))
 (.cond (.s 9)
 (.seq
 (.reg [ia 12 2 1,il 13 12,iq 14 (.lenL (.s 13)),im 2 14])
 .ret)
 .skip))))))
 (.seq
 (.reg [ik 2 0])
 .ret)))}
theorem Jnv :compFn Try.prog Try.f59 [[],[1,4,5],[1,9]]=some J9:=by kernel_rfl
def KU :Eva.Fn:={ntmps:=44,res:=[.s 2],body:=
 (.seq
 (.reg [iq 1 (.box (.s 0)),ik 2 0])
 (.seqj [1]
 (.seq
 (.reg [ia 5 2 1,il 6 5,iq 7 (.lenL (.s 6)),iq 8 (.bin .gtr (.s 7) (.c (.int .i64 8)))])
 (.cond (.s 8)
 (.seq
 (.reg [ik 2 3])
 .ret)
 .skip))
 (.seqj [1]
 (.seq
 (.reg [ia 9 2 1,il 10 9,iq 11 (.lenL (.s 10)),ik 12 0])
 (.block 0
 (.loop [1,10,11,12]
 (.seq
 (.reg [iq 13 (.bin .lss (.s 12) (.s 11))])
 (.seqj [1,10,11,12]
 (.cond (.s 13)
 .skip
 (.exit 0))
 (.seqj [1,10,11,12]
 (.block 1
 (.seq
 (.reg [im 14 12,iq 15 (.iaddrS 1 (.s 10) (.s 12)),il 16 15,im 3 14,im 4 16])
 (.block 2
 (.seq
 (.reg [im 18 4,iq 19 (.call 47 [.s 18]),iq 20 (.not (.s 19)),im 17 20])
 (.cond (.s 17)
 (.seq
 (.reg [ik 2 15])
 .ret)
 (.seq
 (.reg [im 22 3,iq 23 (.bin .gtr (.s 22) (.c (.int .i64 0))),im 24 23,ig 25 24 true (.faddr 2 (.s 1)),ig 26 24 true (.load1 (.s 25)),ig 27 24 true (.mv (.s 3)),ig 28 24 true (.bin .sub (.s 27) (.c (.int .i64 1))),ig 29 24 true (.iaddrS 1 (.s 26) (.s 28)),ig 30 24 true (.load1 (.s 29)),ig 31 24 true (.mv (.s 4)),ig 32 24 true (.bin .geq (.s 30) (.s 31)),iq 33 (.pick (.s 24) (.s 32) (.c (.bool false))),im 21 33])
 (.cond (.s 21)
 (.seq
 (.reg [ik 2 6])
 .ret)
 .skip)))))))
 (.reg [iq 34 (.bin .add (.s 12) (.c (.int .i64 1))),im 12 34])))))))
 (.seqj []
 (.seq
 (.reg [ia 35 0 1,il 36 35,iq 37 (.eq (.one .i) false (.s 36) (.c (.int .i64 8))),im 38 37,ig 39 38 true (.faddr 2 (.s 1)),ig 40 38 true (.load1 (.s 39)),ig 41 38 true (.lenL (.s 40)),ig 42 38 true (.eq (.one .i) false (.s 41) (.c (.int .i64 0))),iq 43 (.pick (.s 38) (.s 42) (.c (.bool false)))])
 (.cond (.s 43)
 (.seq
 (.reg [ik 2 12])
 .ret)
 .skip))
 (.seq
 (.reg [ik 2 0])
 .ret)))))}
theorem Jnw :compFn Try.prog Try.f60 [[1],[1],[1,10,11,12],[1,10,11,12],[1,10,11,12],[]]=some KU:=by kernel_rfl
def J7 :Eva.Fn:={ntmps:=57,res:=[.s 4],body:=
 (.seq
 (.reg [ik 4 0])
 (.seqj []
 (.seq
 (.reg [im 8 1,iq 9 (.lenL (.s 8)),ik 10 0])
 (.block 0
 (.loop [0,1,8,9,10]
 (.seq
 (.reg [iq 11 (.bin .lss (.s 10) (.s 9))])
 (.seqj [0,1,8,9,10]
 (.cond (.s 11)
 .skip
 (.exit 0))
 (.seqj [0,1,8,9,10]
 (.block 1
 (.seq
 (.reg [im 12 10,iq 13 (.iaddrS 6 (.s 8) (.s 10)),iq 14 (.loadn 6 (.s 13)),iq 6 (.alloc [(ofL []), .snil,(.int .i64 0),(ofL []), .snil, .snil]),im 5 12,iz (.store 6 (.s 6) (.s 14))])
 (.seqj [0,1,6,8,9,10]
 (.block 2
 (.seq
 (.reg [ia 16 0 6,il 17 16,iq 18 (.call 47 [.s 17]),iq 19 (.not (.s 18)),im 20 19,ig 21 20 false (.faddr 0 (.s 6)),ig 22 20 false (.load1 (.s 21)),ig 23 20 false (.call 23 [.s 22]),iq 24 (.pick (.s 20) (.c (.bool true)) (.s 23)),im 15 24])
 (.cond (.s 15)
 (.seq
 (.reg [ik 4 15])
 .ret)
 (.seq
 (.drw [im 26 5,iq 27 (.bin .gtr (.s 26) (.c (.int .i64 0))),im 28 27,ig 29 28 true (.mv (.s 1)),ig 30 28 true (.mv (.s 5)),ig 31 28 true (.bin .sub (.s 30) (.c (.int .i64 1))),ig 32 28 true (.iaddrS 6 (.s 29) (.s 31)),ig 33 28 true (.faddr 0 (.s 32)),ig 34 28 true (.load1 (.s 33)),ig 35 28 true (.faddr 0 (.s 6)),ig 36 28 true (.load1 (.s 35)),ig 37 28 true (.bin .geq (.s 34) (.s 36)),iq 38 (.pick (.s 28) (.s 37) (.c (.bool false))),im 25 38] [])
 (.cond (.s 25)
 (.seq
 (.reg [ik 4 6])
 .ret)
 (.seq
 (.reg [ia 40 1 6,il 41 40,iq 42 (.lenL (.s 41)),iq 43 (.bin .gtr (.s 42) (.c (.int .i64 4))),im 39 43])
 (.cond (.s 39)
 (.seq
 (.reg [ik 4 18])
 .ret)
 .skip)))))))
 (.seq
 (.drw [im 44 0,ia 45 1 6,il 46 45,iq 47 (.call 19 [.s 46]),ia 48 2 6,iq 49 (.loadn 4 (.s 48)),iq 50 (.bsl 4 1 [(.int .i64 0),(ofL []), .snil, .snil] [(0,4,(.s 49))]),iq 51 (.app 4 (.s 47) (.s 50)),⟨(some 52),(.call 61 [.s 44, .s 51]),none,(some [])⟩,im 7 52] [])
 (.seq
 (.reg [im 53 7,iq 54 (.eq (.one .i) true (.s 53) (.c (.int .i64 0)))])
 (.cond (.s 54)
 (.seq
 (.reg [im 55 7,im 4 55])
 .ret)
 .skip))))))
 (.reg [iq 56 (.bin .add (.s 10) (.c (.int .i64 1))),im 10 56])))))))
 (.seq
 (.reg [ik 4 0])
 .ret)))}
theorem Jnx :compFn Try.prog Try.f33 [[],[0,1,8,9,10],[0,1,8,9,10],[0,1,8,9,10],[0,1,6,8,9,10]]=some J7:=by kernel_rfl
def Qn :Eva.Fn:={ntmps:=11,res:=[.s 2],body:=
 (.seq
 (.reg [iq 2 (.mv (.c (.bool false)))])
 (.seq
 (.reg [im 3 0,iq 4 (.call 47 [.s 3]),im 5 4,ig 6 5 true (.mv (.s 0)),ig 7 5 true (.bin .add (.c (ofL [32])) (.s 6)),ig 8 5 true (.bin .add (.s 7) (.c (ofL [32]))),ig 9 5 true (.call 48 [(.c (ofL [32,108,101,110,32,110,111,116,32,97,110,100,32,111,114,32,101,113,32,108,116,32,97,100,100,32,115,117,98,32,109,117,108,32,115,104,108,32,115,104,114,32,105,56,32,105,49,54,32,105,51,50,32,117,56,32,117,49,54,32,117,51,50,32,99,97,116,32,116,101,120,116,32,97,116,32,103,101,116,32,104,97,115,32,111,114,101,108,115,101,32])), .s 8]),iq 10 (.pick (.s 5) (.s 9) (.c (.bool false))),im 2 10])
 .ret))}
theorem Jny :compFn Try.prog Try.f23 []=some Qn:=by kernel_rfl
def JO :Eva.Fn:={ntmps:=8,res:=[.s 2],body:=
 (.seq
 (.reg [iq 2 (.mv (.c .snil))])
 (.seqj [0]
 (.seq
 (.reg [im 3 0,iq 4 (.eq (.one .l) false (.s 3) (.c .snil))])
 (.cond (.s 4)
 (.seq
 (.reg [iq 2 (.mv (.c .snil))])
 .ret)
 .skip))
 (.seq
 (.reg [iq 5 (.bsl 4 0 [] []),im 6 0,iq 7 (.app 4 (.s 5) (.s 6)),im 2 7])
 .ret)))}
theorem Jnz :compFn Try.prog Try.f19 [[0]]=some JO:=by kernel_rfl
def KA :Eva.Fn:={ntmps:=21,res:=[.s 4],body:=
 (.seq
 (.reg [ik 4 0])
 (.seqj []
 (.seq
 (.reg [im 8 1,iq 9 (.lenL (.s 8)),ik 10 0])
 (.block 0
 (.loop [0,8,9,10]
 (.seq
 (.reg [iq 11 (.bin .lss (.s 10) (.s 9))])
 (.seqj [0,8,9,10]
 (.cond (.s 11)
 .skip
 (.exit 0))
 (.seqj [0,8,9,10]
 (.block 1
 (.seq
 (.reg [iq 12 (.iaddrS 4 (.s 8) (.s 10)),iq 13 (.loadn 4 (.s 12)),iq 6 (.alloc [(.int .i64 0),(ofL []), .snil, .snil]),iz (.store 4 (.s 6) (.s 13))])
 (.seq
 (.reg [im 14 0,iq 15 (.loadn 4 (.s 6)),iq 16 (.call 32 [.s 14, .s 15,(.c (.int .i64 1))]),im 7 16])
 (.seq
 (.reg [im 17 7,iq 18 (.eq (.one .i) true (.s 17) (.c (.int .i64 0)))])
 (.cond (.s 18)
 (.seq
 (.reg [im 19 7,im 4 19])
 .ret)
 .skip)))))
 (.reg [iq 20 (.bin .add (.s 10) (.c (.int .i64 1))),im 10 20])))))))
 (.seq
 (.reg [ik 4 0])
 .ret)))}
theorem JnA :compFn Try.prog Try.f61 [[],[0,8,9,10],[0,8,9,10],[0,8,9,10]]=some KA:=by kernel_rfl
def QA :Eva.Fn:={ntmps:=66,res:=[.s 4],body:=
 (.seq
 (.reg [iq 2 (.box (.s 0)),iq 3 (.box (.s 1)),iq 4 (.mv (.c (.bool false)))])
 (.seq
 (.reg [iq 11 (.loadn 6 (.s 2)),iq 12 (.call 31 [.s 11]),iq 13 (.build [.mnil,(.int .i64 0)] [(0,1,(.s 12))]),iq 14 (.box (.s 13)),im 5 14])
 (.seqj [2,3,5]
 (.seq
 (.reg [ia 15 4 2,il 16 15,iq 17 (.lenL (.s 16)),ik 18 0])
 (.block 0
 (.loop [2,3,5,16,17,18]
 (.seq
 (.reg [iq 19 (.bin .lss (.s 18) (.s 17))])
 (.seqj [2,3,5,16,17,18]
 (.cond (.s 19)
 .skip
 (.exit 0))
 (.seqj [2,3,5,16,17,18]
 (.block 1
 (.seq
 (.reg [iq 20 (.iaddrS 5 (.s 16) (.s 18)),iq 21 (.loadn 5 (.s 20)),iq 7 (.alloc [(ofL []),(.int .i64 0),(ofL []), .snil, .snil]),iz (.store 5 (.s 7) (.s 21))])
 (.seq
 (.reg [im 22 5,ia 23 1 7,iq 24 (.loadn 4 (.s 23)),iq 25 (.call 32 [.s 22, .s 24,(.c (.int .i64 1))]),iq 26 (.eq (.one .i) true (.s 25) (.c (.int .i64 0)))])
 (.cond (.s 26)
 (.seq
 (.reg [iq 4 (.mv (.c (.bool false)))])
 .ret)
 .skip))))
 (.reg [iq 27 (.bin .add (.s 18) (.c (.int .i64 1))),im 18 27])))))))
 (.seq
 (.reg [im 28 5,iq 29 (.nilck (.s 28)),ia 30 1 29,iz (.store 1 (.s 30) (.c (.int .i64 0)))])
 (.seqj [2,3]
 (.seq
 (.reg [im 31 5,iq 32 (.loadn 4 (.s 3)),iq 33 (.call 32 [.s 31, .s 32,(.c (.int .i64 1))]),iq 34 (.eq (.one .i) true (.s 33) (.c (.int .i64 0)))])
 (.cond (.s 34)
 (.seq
 (.reg [iq 4 (.mv (.c (.bool false)))])
 .ret)
 .skip))
 (.seq
 (.reg [⟨(some 35), .mkmap,none,none⟩,im 8 35])
 (.seqj [3,8]
 (.seq
 (.reg [ia 36 4 2,il 37 36,iq 38 (.lenL (.s 37)),ik 39 0])
 (.block 2
 (.loop [2,3,8,38,39]
 (.seq
 (.reg [iq 40 (.bin .lss (.s 39) (.s 38))])
 (.seqj [2,3,8,38,39]
 (.cond (.s 40)
 .skip
 (.exit 2))
 (.seqj [2,3,8,38,39]
 (.block 3
 (.seq
 (.reg [ia 41 4 2,il 42 41,iq 43 (.lenL (.s 42)),ik 44 0])
 (.block 4
 (.loop [2,3,8,38,39,42,43,44]
 (.seq
 (.reg [iq 45 (.bin .lss (.s 44) (.s 43))])
 (.seqj [2,3,8,38,39,42,43,44]
 (.cond (.s 45)
 .skip
 (.exit 4))
 (.seqj [2,3,8,38,39,42,43,44]
 (.block 5
 (.seq
 (.reg [iq 46 (.iaddrS 5 (.s 42) (.s 44)),iq 47 (.loadn 5 (.s 46)),iq 10 (.alloc [(ofL []),(.int .i64 0),(ofL []), .snil, .snil]),iz (.store 5 (.s 10) (.s 47))])
 (.drw [im 48 8,ia 49 0 10,il 50 49,im 51 8,ia 52 0 10,il 53 52,iq 54 (.lookup (.one .s) (.bool false) false (.s 51) (.s 53)),im 55 54,ig 56 55 false (.faddr 1 (.s 10)),ig 57 55 false (.loadn 4 (.s 56)),ig 58 55 false (.mv (.s 8)),⟨(some 59),(.call 62 [.s 57, .s 58,(.c (.int .i64 1))]),(some (55,false)),(some [49])⟩,iq 60 (.pick (.s 55) (.c (.bool true)) (.s 59)),iz (.mupd (.one .s) (.s 48) (.s 50) (.s 60))] [])))
 (.reg [iq 61 (.bin .add (.s 44) (.c (.int .i64 1))),im 44 61]))))))))
 (.reg [iq 62 (.bin .add (.s 39) (.c (.int .i64 1))),im 39 62])))))))
 (.seq
 (.reg [iq 63 (.loadn 4 (.s 3)),im 64 8,iq 65 (.call 62 [.s 63, .s 64,(.c (.int .i64 1))]),im 4 65])
 .ret))))))))}
theorem JnB :compFn Try.prog Try.f34 [[2,3,5],[2,3,5,16,17,18],[2,3,5,16,17,18],[2,3,5,16,17,18],[2,3],[3,8],[2,3,8,38,39],[2,3,8,38,39],[2,3,8,38,39],[2,3,8,38,39,42,43,44],[2,3,8,38,39,42,43,44],[2,3,8,38,39,42,43,44]]=some QA:=by kernel_rfl
def Q4 :Eva.Fn:={ntmps:=32,res:=[.s 6],body:=
 (.seq
 (.reg [iq 3 (.box (.s 0)),iq 4 (.box (.s 1)),iq 5 (.box (.s 2)),iq 6 (.mv (.c (.bool false)))])
 (.seqj [3,4,5]
 (.seq
 (.reg [il 8 5,iq 9 (.bin .gtr (.s 8) (.c (.int .i64 12)))])
 (.cond (.s 9)
 (.seq
 (.reg [iq 6 (.mv (.c (.bool false)))])
 .ret)
 .skip))
 (.seq
 (.reg [iq 10 (.mkfn 76 [] [.s 4, .s 5]),iq 7 (.alloc [.fnil]),iz (.store 1 (.s 7) (.s 10))])
 (.seqj []
 (.seq
 (.reg [ia 11 0 3,il 12 11])
 (.block 0
 (.seq
 (.reg [iq 14 (.eq (.one .i) false (.s 12) (.c (.int .i64 9))),im 13 14])
 (.cond (.s 13)
 (.seq
 (.reg [il 15 4,ia 16 1 3,il 17 16,iq 18 (.lookup (.one .s) (.bool false) false (.s 15) (.s 17)),im 6 18])
 .ret)
 (.seq
 (.reg [iq 20 (.eq (.one .i) false (.s 12) (.c (.int .i64 8))),im 19 20])
 (.cond (.s 19)
 (.seq
 (.reg [ia 21 3 3,il 22 21,il 23 7,iq 24 (.call 35 [.s 22, .s 23]),im 6 24])
 .ret)
 (.seq
 (.reg [iq 26 (.eq (.one .i) false (.s 12) (.c (.int .i64 7))),im 25 26])
 (.cond (.s 25)
 (.seq
 (.reg [ia 27 3 3,il 28 27,iq 29 (.mkfn 77 [] [.s 7]),iq 30 (.call 35 [.s 28, .s 29]),iq 31 (.not (.s 30)),im 6 31])
 .ret)
 .skip))))))))
 (.seq
 (.reg [iq 6 (.mv (.c (.bool true)))])
 .ret)))))}
theorem JnC :compFn Try.prog Try.f62 [[3,4,5],[]]=some Q4:=by kernel_rfl
def QB :Eva.Fn:={ntmps:=10,res:=[.s 4],body:=
 (.seq
 (.reg [iq 3 (.box (.s 0)),iq 4 (.mv (.c (.bool false)))])
 (.seq
 (.reg [iq 5 (.loadn 4 (.s 3)),il 6 1,il 7 2,iq 8 (.bin .add (.s 7) (.c (.int .i64 1))),iq 9 (.call 62 [.s 5, .s 6, .s 8]),im 4 9])
 .ret))}
theorem JnD :compFn Try.prog Try.f76 []=some QB:=by kernel_rfl
def JM :Eva.Fn:={ntmps:=9,res:=[.s 4],body:=
 (.seq
 (.reg [iq 4 (.mv (.c (.bool false)))])
 (.seq
 (.reg [im 5 0,im 6 1,iq 7 (.call 63 [.s 5, .s 6]),iq 8 (.bin .geq (.s 7) (.c (.int .i64 0))),im 4 8])
 .ret))}
theorem JnE :compFn Try.prog Try.f35 []=some JM:=by kernel_rfl
def JU :Eva.Fn:={ntmps:=19,res:=[.s 4],body:=
 (.seq
 (.reg [ik 4 0])
 (.seqj []
 (.seq
 (.reg [im 6 0,iq 7 (.lenL (.s 6)),ik 8 0])
 (.block 0
 (.loop [0,1,7,8]
 (.seq
 (.reg [iq 9 (.bin .lss (.s 8) (.s 7))])
 (.seqj [0,1,7,8]
 (.cond (.s 9)
 .skip
 (.exit 0))
 (.seqj [0,1,7,8]
 (.block 1
 (.seq
 (.reg [im 10 8,im 5 10])
 (.seq
 (.reg [im 11 1,im 12 0,im 13 5,iq 14 (.iaddrS 4 (.s 12) (.s 13)),iq 15 (.loadn 4 (.s 14)),iq 16 (.callv (.s 11) [.s 15])])
 (.cond (.s 16)
 (.seq
 (.reg [im 17 5,im 4 17])
 .ret)
 .skip))))
 (.reg [iq 18 (.bin .add (.s 8) (.c (.int .i64 1))),im 8 18])))))))
 (.seq
 (.reg [iq 4 (.mv (.c (.int .i64 (-1))))])
 .ret)))}
theorem JnF :compFn Try.prog Try.f63 [[],[0,1,7,8],[0,1,7,8],[0,1,7,8]]=some JU:=by kernel_rfl
def QC :Eva.Fn:={ntmps:=8,res:=[.s 3],body:=
 (.seq
 (.reg [iq 2 (.box (.s 0)),iq 3 (.mv (.c (.bool false)))])
 (.seq
 (.reg [il 4 1,iq 5 (.loadn 4 (.s 2)),iq 6 (.callv (.s 4) [.s 5]),iq 7 (.not (.s 6)),im 3 7])
 .ret))}
theorem JnG :compFn Try.prog Try.f77 []=some QC:=by kernel_rfl
def Qo :Eva.Fn:={ntmps:=43,res:=[.s 2],body:=
 (.seq
 (.reg [iq 1 (.box (.s 0)),iq 2 (.mv (.c .snil))])
 (.seq
 (.reg [iq 3 (.mv (.c .snil))])
 (.seqj [1,3]
 (.seq
 (.reg [ia 8 4 1,il 9 8,iq 10 (.lenL (.s 9)),ik 11 0])
 (.block 0
 (.loop [1,3,9,10,11]
 (.seq
 (.reg [iq 12 (.bin .lss (.s 11) (.s 10))])
 (.seqj [1,3,9,10,11]
 (.cond (.s 12)
 .skip
 (.exit 0))
 (.seqj [1,3,9,10,11]
 (.block 1
 (.seq
 (.reg [iq 13 (.iaddrS 5 (.s 9) (.s 11)),iq 14 (.loadn 5 (.s 13)),iq 5 (.alloc [(ofL []),(.int .i64 0),(ofL []), .snil, .snil]),iz (.store 5 (.s 5) (.s 14))])
 (.reg [im 15 3,ia 16 1 5,iq 17 (.loadn 4 (.s 16)),iq 18 (.bsl 4 1 [(.int .i64 0),(ofL []), .snil, .snil] [(0,4,(.s 17))]),iq 19 (.app 4 (.s 15) (.s 18)),im 3 19])))
 (.reg [iq 20 (.bin .add (.s 11) (.c (.int .i64 1))),im 11 20])))))))
 (.seq
 (.reg [im 21 3,ia 22 0 1,iq 23 (.loadn 4 (.s 22)),iq 24 (.bsl 4 1 [(.int .i64 0),(ofL []), .snil, .snil] [(0,4,(.s 23))]),iq 25 (.app 4 (.s 21) (.s 24)),im 3 25])
 (.seqj [3]
 (.seq
 (.reg [ia 26 5 1,il 27 26,iq 28 (.lenL (.s 27)),ik 29 0])
 (.block 2
 (.loop [3,27,28,29]
 (.seq
 (.reg [iq 30 (.bin .lss (.s 29) (.s 28))])
 (.seqj [3,27,28,29]
 (.cond (.s 30)
 .skip
 (.exit 2))
 (.seqj [3,27,28,29]
 (.block 3
 (.seq
 (.reg [iq 31 (.iaddrS 6 (.s 27) (.s 29)),iq 32 (.loadn 6 (.s 31)),iq 7 (.alloc [(ofL []), .snil,(.int .i64 0),(ofL []), .snil, .snil]),iz (.store 6 (.s 7) (.s 32))])
 (.drw [im 33 3,ia 34 1 7,il 35 34,iq 36 (.app 4 (.s 33) (.s 35)),ia 37 2 7,iq 38 (.loadn 4 (.s 37)),iq 39 (.bsl 4 1 [(.int .i64 0),(ofL []), .snil, .snil] [(0,4,(.s 38))]),iq 40 (.app 4 (.s 36) (.s 39)),im 3 40] [([33],[37])])))
 (.reg [iq 41 (.bin .add (.s 29) (.c (.int .i64 1))),im 29 41])))))))
 (.seq
 (.reg [im 42 3,im 2 42])
 .ret))))))}
theorem JnH :compFn Try.prog Try.f36 [[1,3],[1,3,9,10,11],[1,3,9,10,11],[1,3,9,10,11],[3],[3,27,28,29],[3,27,28,29],[3,27,28,29]]=some Qo:=by kernel_rfl
def Kt :Eva.Fn:={ntmps:=45,res:=[.s 4],body:=
 (.seq
 (.reg [iq 3 (.box (.s 1)),iq 4 (.mv (.c (.bool false)))])
 (.seqj [0,3]
 (.seq
 (.reg [ia 6 0 3,il 7 6,iq 8 (.eq (.one .i) false (.s 7) (.c (.int .i64 6))),im 9 8,ig 10 9 true (.faddr 3 (.s 3)),ig 11 9 true (.load1 (.s 10)),ig 12 9 true (.lenL (.s 11)),ig 13 9 true (.eq (.one .i) false (.s 12) (.c (.int .i64 1))),iq 14 (.pick (.s 9) (.s 13) (.c (.bool false)))])
 (.cond (.s 14)
 (.seq
 (.reg [ia 15 3 3,il 16 15,iq 17 (.iaddrS 4 (.s 16) (.c (.int .i64 0))),iq 18 (.loadn 4 (.s 17)),iq 5 (.alloc [(.int .i64 0),(ofL []), .snil, .snil]),iz (.store 4 (.s 5) (.s 18))])
 (.seqj [0,3,5]
 (.seq
 (.reg [im 19 0,iq 20 (.nilck (.s 19)),ia 21 0 20,il 22 21,iq 23 (.rngM (.s 22))])
 (.block 0
 (.loop [0,3,5,23]
 (.seq
 (.reg [iq 24 (.nextM (.s 23)),ie 25 0 24])
 (.seqj [0,3,5,23]
 (.cond (.s 25)
 .skip
 (.exit 0))
 (.block 1
 (.seq
 (.reg [ia 27 0 5,il 28 27,iq 29 (.eq (.one .i) false (.s 28) (.c (.int .i64 9)))])
 (.cond (.s 29)
 (.drw [im 30 0,iq 31 (.nilck (.s 30)),ia 32 0 31,il 33 32,ia 34 1 5,il 35 34,iq 36 (.lookup (.one .s) (.agg [(.int .i64 0),(ofL []), .snil, .snil]) false (.s 33) (.s 35)),iz (.store 4 (.s 5) (.s 36))] [])
 .skip))))))))
 (.seq
 (.reg [ia 37 0 5,il 38 37,iq 39 (.eq (.one .i) false (.s 38) (.c (.int .i64 6)))])
 (.cond (.s 39)
 (.seq
 (.reg [iq 4 (.mv (.c (.bool true)))])
 .ret)
 .skip))))
 .skip))
 (.seq
 (.reg [ia 40 3 3,il 41 40,im 42 0,iq 43 (.mkfn 37 [.s 42] []),iq 44 (.call 35 [.s 41, .s 43]),im 4 44])
 .ret)))}
theorem JnI :compFn Try.prog Try.f37 [[0,3],[0,3,5],[0,3,5,23],[0,3,5,23]]=some Kt:=by kernel_rfl
def KY :Eva.Fn:={ntmps:=12,res:=[.s 4, .s 5],body:=
 (.seq
 (.reg [iq 3 (.box (.s 1)),ik 4 0,ik 5 0])
 (.seq
 (.reg [iq 6 (.alloc [(.int .i64 0)]),iz (.store 1 (.s 6) (.c (.int .i64 400)))])
 (.seq
 (.reg [im 7 0,iq 8 (.loadn 4 (.s 3)),iq 9 (.call 38 [.s 7, .s 8, .s 6]),ie 10 0 9,ie 11 1 9,im 4 10,im 5 11])
 .ret)))}
theorem JnJ :compFn Try.prog Try.f18 []=some KY:=by kernel_rfl
def JS :Eva.Fn:={ntmps:=70,res:=[.s 6, .s 7],body:=
 (.seq
 (.reg [iq 4 (.box (.s 1)),ik 6 0,ik 7 0])
 (.seq
 (.reg [im 13 2,iq 14 (.nilck (.s 13)),il 15 14,iq 16 (.bin .sub (.s 15) (.c (.int .i64 1))),iq 17 (.nilck (.s 13)),iz (.store 1 (.s 17) (.s 16))])
 (.seqj [0,2,4]
 (.seq
 (.reg [im 18 2,iq 19 (.nilck (.s 18)),il 20 19,iq 21 (.bin .lss (.s 20) (.c (.int .i64 0))),im 22 21,ig 23 22 false (.faddr 3 (.s 4)),ig 24 22 false (.load1 (.s 23)),ig 25 22 false (.lenL (.s 24)),ig 26 22 false (.bin .gtr (.s 25) (.c (.int .i64 8))),iq 27 (.pick (.s 22) (.c (.bool true)) (.s 26)),im 28 27,ig 29 28 false (.faddr 2 (.s 4)),ig 30 28 false (.load1 (.s 29)),ig 31 28 false (.lenL (.s 30)),ig 32 28 false (.bin .gtr (.s 31) (.c (.int .i64 8))),iq 33 (.pick (.s 28) (.c (.bool true)) (.s 32))])
 (.cond (.s 33)
 (.seq
 (.reg [ik 6 0,ik 7 20])
 .ret)
 .skip))
 (.seq
 (.reg [ia 34 0 4,il 35 34,ia 36 1 4,il 37 36,ia 38 2 4,il 39 38,iq 40 (.build [(.int .i64 0),(ofL []), .snil, .snil] [(0,1,(.s 35)),(1,1,(.s 37)),(2,1,(.s 39))]),iq 8 (.alloc [(.int .i64 0),(ofL []), .snil, .snil]),iz (.store 4 (.s 8) (.s 40))])
 (.seqj [0,8]
 (.seq
 (.reg [ia 41 3 4,il 42 41,iq 43 (.lenL (.s 42)),ik 44 0])
 (.block 0
 (.loop [0,2,8,42,43,44]
 (.seq
 (.reg [iq 45 (.bin .lss (.s 44) (.s 43))])
 (.seqj [0,2,8,42,43,44]
 (.cond (.s 45)
 .skip
 (.exit 0))
 (.seqj [0,2,8,42,43,44]
 (.block 1
 (.seq
 (.reg [iq 46 (.iaddrS 4 (.s 42) (.s 44)),iq 47 (.loadn 4 (.s 46)),iq 10 (.alloc [(.int .i64 0),(ofL []), .snil, .snil]),iz (.store 4 (.s 10) (.s 47))])
 (.seq
 (.reg [im 49 0,iq 50 (.loadn 4 (.s 10)),im 51 2,iq 52 (.call 38 [.s 49, .s 50, .s 51]),im 48 52,ie 53 0 48,ie 54 1 48,im 11 53,im 12 54])
 (.seqj [0,2,8,11,42,43,44]
 (.seq
 (.reg [im 55 12,iq 56 (.eq (.one .i) true (.s 55) (.c (.int .i64 0)))])
 (.cond (.s 56)
 (.seq
 (.reg [im 57 12,ik 6 0,im 7 57])
 .ret)
 .skip))
 (.reg [ia 58 3 8,il 59 58,im 60 11,iq 61 (.bsl 1 1 [(.int .i64 0)] [(0,1,(.s 60))]),iq 62 (.app 1 (.s 59) (.s 61)),ia 63 3 8,iz (.store 1 (.s 63) (.s 62))])))))
 (.reg [iq 64 (.bin .add (.s 44) (.c (.int .i64 1))),im 44 64])))))))
 (.seq
 (.reg [im 65 0,iq 66 (.loadn 4 (.s 8)),iq 67 (.call 64 [.s 65, .s 66]),ie 68 0 67,ie 69 1 67,im 6 68,im 7 69])
 .ret))))))}
theorem JnK :compFn Try.prog Try.f38 [[0,2,4],[0,8],[0,2,8,42,43,44],[0,2,8,42,43,44],[0,2,8,42,43,44],[0,2,8,11,42,43,44]]=some JS:=by kernel_rfl
def KZ :Eva.Fn:={ntmps:=76,res:=[.s 4, .s 5],body:=
 (.seq
 (.reg [iq 3 (.box (.s 1)),ik 4 0,ik 5 0])
 (.seq
 (.reg [iq 9 (.loadn 4 (.s 3)),iq 10 (.call 78 [.s 9]),iq 6 (.alloc [(.int .i64 0),(.int .i64 0),(.int .i64 0),(ofL []),(ofL []),(ofL []),(ofL []),(ofL []),(ofL []),(ofL []),(ofL []),(ofL []),(.int .i64 0),(.int .i64 0),(.int .i64 0),(.int .i64 0),(.int .i64 0),(.int .i64 0),(.int .i64 0),(.int .i64 0)]),iz (.store 20 (.s 6) (.s 10))])
 (.seqj [0,3,6]
 (.seq
 (.drw [im 12 0,iq 13 (.nilck (.s 12)),ia 14 1 13,il 15 14,iq 16 (.loadn 20 (.s 6)),iq 17 (.lookup (.many [.i, .i, .i, .s, .s, .s, .s, .s, .s, .s, .s, .s, .i, .i, .i, .i, .i, .i, .i, .i]) (.int .i64 0) true (.s 15) (.s 16)),im 11 17,ie 18 0 11,ie 19 1 11,im 7 18,im 8 19] [])
 (.seq
 (.drw [im 20 8,im 21 20,ig 22 21 true (.mv (.s 0)),ig 23 21 true (.nilck (.s 22)),ig 24 21 true (.faddr 0 (.s 23)),ig 25 21 true (.load1 (.s 24)),ig 26 21 true (.mv (.s 7)),ig 27 21 true (.iaddrS 4 (.s 25) (.s 26)),ig 28 21 true (.loadn 4 (.s 27)),ig 29 21 true (.call 78 [.s 28]),ig 30 21 true (.fld 12 (some 8) (.s 29)),ig 31 21 true (.faddr 12 (.s 6)),ig 32 21 true (.loadn 8 (.s 31)),ig 33 21 true (.eq (.many [.i, .i, .i, .i, .i, .i, .i, .i]) false (.s 30) (.s 32)),iq 34 (.pick (.s 21) (.s 33) (.c (.bool false)))] [])
 (.cond (.s 34)
 (.seq
 (.reg [im 35 7,im 4 35,ik 5 0])
 .ret)
 .skip)))
 (.seqj [0,3,6]
 (.seq
 (.reg [im 36 0,iq 37 (.nilck (.s 36)),ia 38 0 37,il 39 38,iq 40 (.lenL (.s 39)),iq 41 (.bin .geq (.s 40) (.c (.int .i64 120)))])
 (.cond (.s 41)
 (.seq
 (.reg [ik 4 0,ik 5 20])
 .ret)
 .skip))
 (.seq
 (.drw [ia 42 2 3,il 43 42,iq 44 (.call 51 [.s 43]),ia 45 3 3,il 46 45,⟨(some 47),(.call 22 [.s 46]),none,(some [])⟩,ia 48 2 3,iz (.store 1 (.s 48) (.s 44)),ia 49 3 3,iz (.store 1 (.s 49) (.s 47))] [])
 (.seq
 (.drw [im 50 0,iq 51 (.nilck (.s 50)),ia 52 1 51,il 53 52,iq 54 (.loadn 20 (.s 6)),im 55 0,iq 56 (.nilck (.s 55)),ia 57 0 56,il 58 57,iq 59 (.lenL (.s 58)),iz (.mupd (.many [.i, .i, .i, .s, .s, .s, .s, .s, .s, .s, .s, .s, .i, .i, .i, .i, .i, .i, .i, .i]) (.s 53) (.s 54) (.s 59))] [])
 (.seq
 (.drw [im 60 0,im 61 0,iq 62 (.nilck (.s 61)),ia 63 0 62,il 64 63,iq 65 (.loadn 4 (.s 3)),iq 66 (.bsl 4 1 [(.int .i64 0),(ofL []), .snil, .snil] [(0,4,(.s 65))]),iq 67 (.app 4 (.s 64) (.s 66)),iq 68 (.nilck (.s 60)),ia 69 0 68,iz (.store 1 (.s 69) (.s 67))] [])
 (.seq
 (.reg [im 70 0,iq 71 (.nilck (.s 70)),ia 72 0 71,il 73 72,iq 74 (.lenL (.s 73)),iq 75 (.bin .sub (.s 74) (.c (.int .i64 1))),im 4 75,ik 5 0])
 .ret))))))))}
theorem JnL :compFn Try.prog Try.f64 [[0,3,6],[0,3,6]]=some KZ:=by kernel_rfl
def Q5 :Eva.Fn:={ntmps:=26,res:=[(.cn 2 20)],body:=
 (.seq
 (.reg [iq 1 (.box (.s 0)),iq 2 (.alloc [(.int .i64 0),(.int .i64 0),(.int .i64 0),(ofL []),(ofL []),(ofL []),(ofL []),(ofL []),(ofL []),(ofL []),(ofL []),(ofL []),(.int .i64 0),(.int .i64 0),(.int .i64 0),(.int .i64 0),(.int .i64 0),(.int .i64 0),(.int .i64 0),(.int .i64 0)])])
 (.seq
 (.reg [ia 4 0 1,il 5 4,ia 6 2 1,il 7 6,iq 8 (.lenL (.s 7)),ia 9 3 1,il 10 9,iq 11 (.lenL (.s 10)),ia 12 1 1,il 13 12,iq 14 (.build [(.int .i64 0),(.int .i64 0),(.int .i64 0),(ofL []),(ofL []),(ofL []),(ofL []),(ofL []),(ofL []),(ofL []),(ofL []),(ofL []),(.int .i64 0),(.int .i64 0),(.int .i64 0),(.int .i64 0),(.int .i64 0),(.int .i64 0),(.int .i64 0),(.int .i64 0)] [(0,1,(.s 5)),(1,1,(.s 8)),(2,1,(.s 11)),(3,1,(.s 13))]),iq 3 (.alloc [(.int .i64 0),(.int .i64 0),(.int .i64 0),(ofL []),(ofL []),(ofL []),(ofL []),(ofL []),(ofL []),(ofL []),(ofL []),(ofL []),(.int .i64 0),(.int .i64 0),(.int .i64 0),(.int .i64 0),(.int .i64 0),(.int .i64 0),(.int .i64 0),(.int .i64 0)]),iz (.store 20 (.s 3) (.s 14))])
 (.seq
 (.drw [ia 15 4 3,iq 16 (.cutA 8 1 (.s 15) none none none),ia 17 2 1,il 18 17,iq 19 (.copy 1 (.s 16) (.s 18))] [])
 (.seq
 (.drw [ia 20 12 3,iq 21 (.cutA 8 1 (.s 20) none none none),ia 22 3 1,il 23 22,iq 24 (.copy 1 (.s 21) (.s 23))] [])
 (.seq
 (.reg [iq 25 (.loadn 20 (.s 3)),iz (.store 20 (.s 2) (.s 25))])
 .ret)))))}
theorem JnM :compFn Try.prog Try.f78 []=some Q5:=by kernel_rfl
def JK :Eva.Fn:={ntmps:=8,res:=[.s 2],body:=
 (.seq
 (.reg [iq 2 (.mv (.c .snil))])
 (.seqj [0]
 (.seq
 (.reg [im 3 0,iq 4 (.eq (.one .l) false (.s 3) (.c .snil))])
 (.cond (.s 4)
 (.seq
 (.reg [iq 2 (.mv (.c .snil))])
 .ret)
 .skip))
 (.seq
 (.reg [iq 5 (.bsl 1 0 [] []),im 6 0,iq 7 (.app 1 (.s 5) (.s 6)),im 2 7])
 .ret)))}
theorem JnN :compFn Try.prog Try.f51 [[0]]=some JK:=by kernel_rfl
def JR :Eva.Fn:={ntmps:=8,res:=[.s 2],body:=
 (.seq
 (.reg [iq 2 (.mv (.c .snil))])
 (.seqj [0]
 (.seq
 (.reg [im 3 0,iq 4 (.eq (.one .l) false (.s 3) (.c .snil))])
 (.cond (.s 4)
 (.seq
 (.reg [iq 2 (.mv (.c .snil))])
 .ret)
 .skip))
 (.seq
 (.reg [iq 5 (.bsl 1 0 [] []),im 6 0,iq 7 (.app 1 (.s 5) (.s 6)),im 2 7])
 .ret)))}
theorem JnO :compFn Try.prog Try.f22 [[0]]=some JR:=by kernel_rfl
def QT :Eva.Fn:={ntmps:=112,res:=[.s 6, .s 7],body:=
 (.seq
 (.reg [ik 6 0,ik 7 0])
 (.seq
 (.reg [im 26 0,im 27 1,iq 28 (.call 9 [.s 26, .s 27]),im 25 28,ie 29 0 25,ie 30 1 25,ie 31 2 25,im 8 29,im 9 30,im 10 31])
 (.seq
 (.reg [im 32 8,iq 33 (.lenL (.s 32)),im 11 33])
 (.seqj [0,1,2,8,9,11]
 (.block 0
 (.seq
 (.reg [im 35 1,iq 36 (.call 23 [.s 35]),im 34 36])
 (.cond (.s 34)
 (.reg [im 37 1,iq 38 (.call 24 [.s 37]),im 11 38])
 (.seq
 (.reg [im 40 10,iq 41 (.not (.s 40)),im 39 41])
 (.cond (.s 39)
 (.seq
 (.reg [ik 6 0,ik 7 15])
 .ret)
 .skip)))))
 (.seqj [0,1,2,8,9]
 (.seq
 (.reg [im 42 2,iq 43 (.lenL (.s 42)),im 44 11,iq 45 (.eq (.one .i) true (.s 43) (.s 44))])
 (.cond (.s 45)
 (.seq
 (.reg [ik 6 0,ik 7 18])
 .ret)
 .skip))
 (.seqj [0,1,2]
 (.seq
 (.reg [im 46 1,iq 47 (.call 23 [.s 46]),iq 48 (.not (.s 47))])
 (.cond (.s 48)
 (.seqj [9]
 (.seq
 (.reg [im 49 8,iq 50 (.lenL (.s 49)),ik 51 0])
 (.block 1
 (.loop [0,2,9,49,50,51]
 (.seq
 (.reg [iq 52 (.bin .lss (.s 51) (.s 50))])
 (.seqj [0,2,9,49,50,51]
 (.cond (.s 52)
 .skip
 (.exit 1))
 (.seqj [0,2,9,49,50,51]
 (.block 2
 (.seq
 (.reg [im 53 51,iq 54 (.iaddrS 1 (.s 49) (.s 51)),il 55 54,im 12 53,im 13 55])
 (.seq
 (.reg [im 57 0,im 58 2,im 59 12,iq 60 (.iaddrS 1 (.s 58) (.s 59)),il 61 60,im 62 13,iq 63 (.call 25 [.s 57, .s 61, .s 62]),im 56 63,ie 64 0 56,ie 65 1 56,im 14 64,im 15 65])
 (.seq
 (.reg [im 66 14,iq 67 (.not (.s 66))])
 (.cond (.s 67)
 (.seq
 (.reg [ik 6 0,ik 7 17])
 .ret)
 .skip)))))
 (.reg [iq 68 (.bin .add (.s 51) (.c (.int .i64 1))),im 51 68])))))))
 (.seq
 (.reg [im 69 9,im 6 69,ik 7 0])
 .ret))
 .skip))
 (.seq
 (.reg [im 70 0,im 71 2,iq 72 (.build [.pnil, .snil, .snil] [(0,1,(.s 70)),(2,1,(.s 71))]),iq 16 (.alloc [.pnil, .snil, .snil]),iz (.store 3 (.s 16) (.s 72))])
 (.seqj [1,16]
 (.seq
 (.reg [im 73 2,iq 74 (.lenL (.s 73)),ik 75 0])
 (.block 3
 (.loop [0,1,16,73,74,75]
 (.seq
 (.reg [iq 76 (.bin .lss (.s 75) (.s 74))])
 (.seqj [0,1,16,73,74,75]
 (.cond (.s 76)
 .skip
 (.exit 3))
 (.seqj [0,1,16,73,74,75]
 (.block 4
 (.seq
 (.reg [iq 77 (.iaddrS 1 (.s 73) (.s 75)),il 78 77,im 18 78])
 (.seq
 (.reg [im 80 0,im 81 18,iq 82 (.call 26 [.s 80, .s 81]),im 79 82,ie 83 0 79,ie 84 1 79,im 19 83,im 20 84])
 (.seq
 (.reg [im 86 0,im 87 19,iq 88 (.call 27 [.s 86, .s 87]),im 85 88,ie 89 0 85,ie 90 1 85,iq 21 (.alloc [(.int .i64 0),(ofL []), .snil, .snil]),iz (.store 4 (.s 21) (.s 89)),im 22 90])
 (.seqj [0,1,16,21,73,74,75]
 (.seq
 (.reg [im 92 0,im 93 18,iq 94 (.call 26 [.s 92, .s 93]),im 91 94,ie 95 0 91,ie 96 1 91,im 23 95,im 24 96])
 (.seq
 (.reg [im 97 24,iq 98 (.not (.s 97))])
 (.cond (.s 98)
 (.reg [iq 99 (.build [(.int .i64 0),(ofL []), .snil, .snil] []),iz (.store 4 (.s 21) (.s 99))])
 .skip)))
 (.reg [ia 100 1 16,il 101 100,iq 102 (.loadn 4 (.s 21)),iq 103 (.bsl 4 1 [(.int .i64 0),(ofL []), .snil, .snil] [(0,4,(.s 102))]),iq 104 (.app 4 (.s 101) (.s 103)),ia 105 1 16,iz (.store 1 (.s 105) (.s 104))]))))))
 (.reg [iq 106 (.bin .add (.s 75) (.c (.int .i64 1))),im 75 106])))))))
 (.seq
 (.reg [iq 107 (.loadn 3 (.s 16)),im 108 1,iq 109 (.call 28 [.s 107, .s 108]),ie 110 0 109,ie 111 1 109,im 6 110,im 7 111])
 .ret)))))))))}
theorem JnP :compFn Try.prog Try.f11 [[0,1,2,8,9,11],[0,1,2,8,9],[0,1,2],[9],[0,2,9,49,50,51],[0,2,9,49,50,51],[0,2,9,49,50,51],[1,16],[0,1,16,73,74,75],[0,1,16,73,74,75],[0,1,16,73,74,75],[0,1,16,21,73,74,75]]=some QT:=by kernel_rfl
def Kw :Eva.Fn:={ntmps:=32,res:=[.s 4, .s 5, .s 6],body:=
 (.seq
 (.reg [iq 4 (.mv (.c .snil)),ik 5 0,iq 6 (.mv (.c (.bool false)))])
 (.seq
 (.reg [im 10 0,iq 11 (.nilck (.s 10)),ia 12 4 11,il 13 12,im 14 1,iq 15 (.lookup (.one .s) .snil true (.s 13) (.s 14)),im 9 15,ie 16 0 9,ie 17 1 9,im 7 16,im 8 17])
 (.seqj [7]
 (.seq
 (.reg [im 18 8,iq 19 (.not (.s 18))])
 (.cond (.s 19)
 (.seq
 (.reg [iq 4 (.mv (.c .snil)),ik 5 0,iq 6 (.mv (.c (.bool false)))])
 .ret)
 .skip))
 (.seq
 (.drw [im 20 7,im 21 7,iq 22 (.lenL (.s 21)),iq 23 (.bin .sub (.s 22) (.c (.int .i64 1))),iq 24 (.cutL 1 (.s 20) none (some (.s 23)) none),iq 25 (.call 22 [.s 24]),im 26 7,im 27 7,iq 28 (.lenL (.s 27)),iq 29 (.bin .sub (.s 28) (.c (.int .i64 1))),iq 30 (.iaddrS 1 (.s 26) (.s 29)),il 31 30,im 4 25,im 5 31,iq 6 (.mv (.c (.bool true)))] [])
 .ret))))}
theorem Jpv :compFn Try.prog Try.f9 [[7]]=some Kw:=by kernel_rfl
def QK :Eva.Fn:={ntmps:=16,res:=[.s 2],body:=
 (.seq
 (.reg [ik 2 0])
 (.seqj []
 (.seq
 (.reg [im 3 0])
 (.block 0
 (.seqj []
 (.block 2
 (.block 1
 (.seqj []
 (.seqj [3]
 (.seqj [3,4]
 (.seq
 (.reg [iq 5 (.eq (.one .s) false (.s 3) (.c (ofL [108,101,110]))),im 4 5])
 (.cond (.s 4)
 .skip
 (.seq
 (.reg [iq 6 (.eq (.one .s) false (.s 3) (.c (ofL [110,111,116]))),im 4 6])
 (.cond (.s 4)
 .skip
 (.seq
 (.reg [iq 7 (.eq (.one .s) false (.s 3) (.c (ofL [116,101,120,116]))),im 4 7])
 (.cond (.s 4)
 .skip
 (.seq
 (.reg [iq 8 (.eq (.one .s) false (.s 3) (.c (ofL [104,97,115]))),im 4 8])
 (.cond (.s 4)
 .skip
 (.seq
 (.reg [iq 9 (.eq (.one .s) false (.s 3) (.c (ofL [105,56]))),im 4 9])
 (.cond (.s 4)
 .skip
 (.seq
 (.reg [iq 10 (.eq (.one .s) false (.s 3) (.c (ofL [105,49,54]))),im 4 10])
 (.cond (.s 4)
 .skip
 (.seq
 (.reg [iq 11 (.eq (.one .s) false (.s 3) (.c (ofL [105,51,50]))),im 4 11])
 (.cond (.s 4)
 .skip
 (.reg [iq 12 (.eq (.one .s) false (.s 3) (.c (ofL [117,56]))),im 4 12])))))))))))))))
 (.cond (.s 4)
 (.exit 1)
 .skip))
 (.seqj [13]
 (.seq
 (.reg [iq 14 (.eq (.one .s) false (.s 3) (.c (ofL [117,49,54]))),im 13 14])
 (.cond (.s 13)
 .skip
 (.reg [iq 15 (.eq (.one .s) false (.s 3) (.c (ofL [117,51,50]))),im 13 15])))
 (.cond (.s 13)
 (.exit 2)
 .skip)))
 (.exit 0))))
 (.seq
 (.seq
 (.reg [ik 2 1])
 .ret)
 (.exit 0)))))
 (.seq
 (.reg [ik 2 2])
 .ret)))}
theorem JnQ :compFn Try.prog Try.f24 [[],[],[],[3],[3,4],[13]]=some QK:=by kernel_rfl
def kV :Eva.Fn:={ntmps:=42,res:=[.s 6, .s 7],body:=
 (.seq
 (.reg [iq 6 (.mv (.c (.bool false))),ik 7 0])
 (.seqj [0,1,2]
 (.seq
 (.reg [im 10 1,iq 11 (.bin .lss (.s 10) (.c (.int .i64 0))),im 12 11,ig 13 12 false (.mv (.s 1)),ig 14 12 false (.mv (.s 0)),ig 15 12 false (.call 49 [.s 14]),ig 16 12 false (.bin .geq (.s 13) (.s 15)),iq 17 (.pick (.s 12) (.c (.bool true)) (.s 16)),im 18 17,ig 19 18 false (.mv (.s 2)),ig 20 18 false (.bin .lss (.s 19) (.c (.int .i64 0))),iq 21 (.pick (.s 18) (.c (.bool true)) (.s 20)),im 22 21,ig 23 22 false (.mv (.s 2)),ig 24 22 false (.mv (.s 0)),ig 25 22 false (.call 49 [.s 24]),ig 26 22 false (.bin .geq (.s 23) (.s 25)),iq 27 (.pick (.s 22) (.c (.bool true)) (.s 26))])
 (.cond (.s 27)
 (.seq
 (.reg [iq 6 (.mv (.c (.bool false))),ik 7 0])
 .ret)
 .skip))
 (.seq
 (.reg [im 28 0,⟨(some 29), .mkmap,none,none⟩,iq 30 (.build [.pnil, .mnil] [(0,1,(.s 28)),(1,1,(.s 29))]),iq 31 (.box (.s 30)),im 8 31])
 (.seq
 (.reg [im 32 8,im 33 1,im 34 2,iq 35 (.call 50 [.s 32, .s 33, .s 34]),im 9 35])
 (.seq
 (.reg [im 36 9,im 37 8,iq 38 (.nilck (.s 37)),ia 39 1 38,il 40 39,iq 41 (.lenM (.s 40)),im 6 36,im 7 41])
 .ret)))))}
theorem JnR :compFn Try.prog Try.f25 [[0,1,2]]=some kV:=by kernel_rfl
def K0 :Eva.Fn:={ntmps:=8,res:=[.s 2],body:=
 (.seq
 (.reg [ik 2 0])
 (.seq
 (.reg [im 3 0,iq 4 (.nilck (.s 3)),ia 5 0 4,il 6 5,iq 7 (.lenL (.s 6)),im 2 7])
 .ret))}
theorem JnS :compFn Try.prog Try.f49 []=some K0:=by kernel_rfl
def Ke :Eva.Fn:={ntmps:=36,res:=[.s 6],body:=
 (.seq
 (.reg [iq 6 (.mv (.c (.bool false)))])
 (.seq
 (.reg [im 8 1,im 9 2,iq 10 (.build [(.int .i64 0),(.int .i64 0)] [(0,1,(.s 8)),(1,1,(.s 9))]),iq 7 (.alloc [(.int .i64 0),(.int .i64 0)]),iz (.store 2 (.s 7) (.s 10))])
 (.seqj [0,1,2,7]
 (.seq
 (.drw [im 11 1,im 12 2,iq 13 (.eq (.one .i) false (.s 11) (.s 12)),im 14 13,ig 15 14 false (.mv (.s 0)),ig 16 14 false (.nilck (.s 15)),ig 17 14 false (.faddr 1 (.s 16)),ig 18 14 false (.load1 (.s 17)),ig 19 14 false (.loadn 2 (.s 7)),ig 20 14 false (.lookup (.many [.i, .i]) (.int .i64 0) false (.s 18) (.s 19)),ig 21 14 false (.bin .gtr (.s 20) (.c (.int .i64 0))),iq 22 (.pick (.s 14) (.c (.bool true)) (.s 21))] [])
 (.cond (.s 22)
 (.seq
 (.reg [iq 6 (.mv (.c (.bool true)))])
 .ret)
 .skip))
 (.seq
 (.drw [im 23 0,iq 24 (.nilck (.s 23)),ia 25 1 24,il 26 25,iq 27 (.loadn 2 (.s 7)),iq 28 (.lookup (.many [.i, .i]) (.int .i64 0) false (.s 26) (.s 27)),iq 29 (.bin .add (.s 28) (.c (.int .i64 1))),iq 30 (.ment (.many [.i, .i]) (.int .i64 0) (.s 26) (.s 27)),ie 31 1 30,iz (.ests (.s 26) (.s 31) (.s 29))] [])
 (.seq
 (.reg [im 32 0,im 33 1,im 34 2,iq 35 (.call 73 [.s 32, .s 33, .s 34]),im 6 35])
 .ret)))))}
theorem JnT :compFn Try.prog Try.f50 [[0,1,2,7]]=some Ke:=by kernel_rfl
def K8 :Eva.Fn:={ntmps:=103,res:=[.s 6],body:=
 (.seq
 (.reg [iq 6 (.mv (.c (.bool false)))])
 (.seq
 (.reg [im 14 0,iq 15 (.nilck (.s 14)),ia 16 0 15,il 17 16,im 18 1,iq 19 (.call 26 [.s 17, .s 18]),im 13 19,ie 20 0 13,ie 21 1 13,im 1 20,im 7 21])
 (.seq
 (.reg [im 23 0,iq 24 (.nilck (.s 23)),ia 25 0 24,il 26 25,im 27 2,iq 28 (.call 26 [.s 26, .s 27]),im 22 28,ie 29 0 22,ie 30 1 22,im 2 29,im 8 30])
 (.seqj [0,1,2]
 (.seq
 (.reg [im 31 7,iq 32 (.not (.s 31)),im 33 32,ig 34 33 false (.mv (.s 8)),ig 35 33 false (.not (.s 34)),iq 36 (.pick (.s 33) (.c (.bool true)) (.s 35))])
 (.cond (.s 36)
 (.seq
 (.reg [iq 6 (.mv (.c (.bool false)))])
 .ret)
 .skip))
 (.seq
 (.reg [im 38 0,iq 39 (.nilck (.s 38)),ia 40 0 39,il 41 40,im 42 1,iq 43 (.call 27 [.s 41, .s 42]),im 37 43,ie 44 0 37,ie 45 1 37,iq 9 (.alloc [(.int .i64 0),(ofL []), .snil, .snil]),iz (.store 4 (.s 9) (.s 44)),im 10 45])
 (.seq
 (.reg [im 47 0,iq 48 (.nilck (.s 47)),ia 49 0 48,il 50 49,im 51 2,iq 52 (.call 27 [.s 50, .s 51]),im 46 52,ie 53 0 46,ie 54 1 46,iq 11 (.alloc [(.int .i64 0),(ofL []), .snil, .snil]),iz (.store 4 (.s 11) (.s 53)),im 12 54])
 (.seqj [0,9,11]
 (.block 0
 (.seq
 (.reg [ia 56 0 11,il 57 56,iq 58 (.eq (.one .i) false (.s 57) (.c (.int .i64 6))),im 59 58,ig 60 59 true (.faddr 0 (.s 9)),ig 61 59 true (.load1 (.s 60)),ig 62 59 true (.eq (.one .i) true (.s 61) (.c (.int .i64 6))),iq 63 (.pick (.s 59) (.s 62) (.c (.bool false))),im 64 63,ig 65 64 true (.faddr 3 (.s 11)),ig 66 64 true (.load1 (.s 65)),ig 67 64 true (.lenL (.s 66)),ig 68 64 true (.eq (.one .i) false (.s 67) (.c (.int .i64 1))),iq 69 (.pick (.s 64) (.s 68) (.c (.bool false))),im 55 69])
 (.cond (.s 55)
 (.seq
 (.reg [im 70 0,im 71 1,ia 72 3 11,il 73 72,iq 74 (.iaddrS 1 (.s 73) (.c (.int .i64 0))),il 75 74,iq 76 (.call 50 [.s 70, .s 71, .s 75]),im 6 76])
 .ret)
 (.seq
 (.reg [ia 78 0 9,il 79 78,ia 80 0 11,il 81 80,iq 82 (.eq (.one .i) true (.s 79) (.s 81)),im 77 82])
 (.cond (.s 77)
 (.seq
 (.reg [iq 6 (.mv (.c (.bool false)))])
 .ret)
 (.seq
 (.reg [ia 84 0 11,il 85 84,iq 86 (.eq (.one .i) false (.s 85) (.c (.int .i64 7))),im 83 86])
 (.cond (.s 83)
 (.seq
 (.reg [im 87 0,iq 88 (.loadn 4 (.s 9)),iq 89 (.loadn 4 (.s 11)),iq 90 (.call 85 [.s 87, .s 88, .s 89,(.c (.bool true))]),im 6 90])
 .ret)
 (.seq
 (.reg [ia 92 0 11,il 93 92,iq 94 (.eq (.one .i) false (.s 93) (.c (.int .i64 8))),im 91 94])
 (.cond (.s 91)
 (.seq
 (.reg [im 95 0,iq 96 (.loadn 4 (.s 11)),iq 97 (.loadn 4 (.s 9)),iq 98 (.call 85 [.s 95, .s 96, .s 97,(.c (.bool false))]),im 6 98])
 .ret)
 .skip)))))))))
 (.seq
 (.reg [im 99 0,iq 100 (.loadn 4 (.s 9)),iq 101 (.loadn 4 (.s 11)),iq 102 (.call 86 [.s 99, .s 100, .s 101]),im 6 102])
 .ret))))))))}
theorem JnU :compFn Try.prog Try.f73 [[0,1,2],[0,9,11]]=some K8:=by kernel_rfl
def KL :Eva.Fn:={ntmps:=57,res:=[.s 4, .s 5],body:=
 (.seq
 (.reg [ik 4 0,iq 5 (.mv (.c (.bool false)))])
 (.seqj []
 (.seq
 (.reg [im 8 0,iq 9 (.nilck (.s 8)),ia 10 0 9,il 11 10,iq 12 (.lenL (.s 11)),iq 13 (.bin .add (.s 12) (.c (.int .i64 1))),ik 14 0])
 (.block 0
 (.loop [0,1,13,14]
 (.seq
 (.reg [iq 15 (.bin .lss (.s 14) (.s 13))])
 (.seqj [0,1,13,14]
 (.cond (.s 15)
 .skip
 (.exit 0))
 (.seqj [0,1,13,14]
 (.block 1
 (.seqj [0,1,13,14]
 (.seq
 (.reg [im 16 1,iq 17 (.bin .lss (.s 16) (.c (.int .i64 0))),im 18 17,ig 19 18 false (.mv (.s 1)),ig 20 18 false (.mv (.s 0)),ig 21 18 false (.nilck (.s 20)),ig 22 18 false (.faddr 0 (.s 21)),ig 23 18 false (.load1 (.s 22)),ig 24 18 false (.lenL (.s 23)),ig 25 18 false (.bin .geq (.s 19) (.s 24)),iq 26 (.pick (.s 18) (.c (.bool true)) (.s 25))])
 (.cond (.s 26)
 (.seq
 (.reg [ik 4 0,iq 5 (.mv (.c (.bool false)))])
 .ret)
 .skip))
 (.seqj [0,1,13,14]
 (.seq
 (.reg [im 27 0,iq 28 (.nilck (.s 27)),ia 29 0 28,il 30 29,im 31 1,iq 32 (.iaddrS 4 (.s 30) (.s 31)),ia 33 0 32,il 34 33,iq 35 (.eq (.one .i) true (.s 34) (.c (.int .i64 9)))])
 (.cond (.s 35)
 (.seq
 (.reg [im 36 1,im 4 36,iq 5 (.mv (.c (.bool true)))])
 .ret)
 .skip))
 (.seq
 (.drw [im 38 0,iq 39 (.nilck (.s 38)),ia 40 2 39,il 41 40,im 42 0,iq 43 (.nilck (.s 42)),ia 44 0 43,il 45 44,im 46 1,iq 47 (.iaddrS 4 (.s 45) (.s 46)),ia 48 1 47,il 49 48,iq 50 (.lookup (.one .s) (.int .i64 0) true (.s 41) (.s 49)),im 37 50,ie 51 0 37,ie 52 1 37,im 6 51,im 7 52] [])
 (.seqj [0,6,13,14]
 (.seq
 (.reg [im 53 7,iq 54 (.not (.s 53))])
 (.cond (.s 54)
 (.reg [iq 6 (.mv (.c (.int .i64 (-1))))])
 .skip))
 (.reg [im 55 6,im 1 55]))))))
 (.reg [iq 56 (.bin .add (.s 14) (.c (.int .i64 1))),im 14 56])))))))
 (.seq
 (.reg [ik 4 0,iq 5 (.mv (.c (.bool false)))])
 .ret)))}
theorem JnV :compFn Try.prog Try.f26 [[],[0,1,13,14],[0,1,13,14],[0,1,13,14],[0,1,13,14],[0,1,13,14],[0,6,13,14]]=some KL:=by kernel_rfl
def KM :Eva.Fn:={ntmps:=35,res:=[(.cn 4 4), .s 5],body:=
 (.seq
 (.reg [iq 4 (.alloc [(.int .i64 0),(ofL []), .snil, .snil]),iq 5 (.mv (.c (.bool false)))])
 (.seqj [0,1,4]
 (.seq
 (.reg [im 7 1,iq 8 (.bin .lss (.s 7) (.c (.int .i64 0))),im 9 8,ig 10 9 false (.mv (.s 1)),ig 11 9 false (.mv (.s 0)),ig 12 9 false (.nilck (.s 11)),ig 13 9 false (.faddr 0 (.s 12)),ig 14 9 false (.load1 (.s 13)),ig 15 9 false (.lenL (.s 14)),ig 16 9 false (.bin .geq (.s 10) (.s 15)),iq 17 (.pick (.s 9) (.c (.bool true)) (.s 16))])
 (.cond (.s 17)
 (.seq
 (.reg [iq 18 (.build [(.int .i64 0),(ofL []), .snil, .snil] []),iz (.store 4 (.s 4) (.s 18)),iq 5 (.mv (.c (.bool false)))])
 .ret)
 .skip))
 (.seq
 (.reg [im 19 0,iq 20 (.nilck (.s 19)),ia 21 0 20,il 22 21,im 23 1,iq 24 (.iaddrS 4 (.s 22) (.s 23)),iq 25 (.loadn 4 (.s 24)),iq 6 (.alloc [(.int .i64 0),(ofL []), .snil, .snil]),iz (.store 4 (.s 6) (.s 25))])
 (.seq
 (.drw [ia 26 2 6,il 27 26,iq 28 (.call 51 [.s 27]),ia 29 3 6,il 30 29,⟨(some 31),(.call 22 [.s 30]),none,(some [])⟩,ia 32 2 6,iz (.store 1 (.s 32) (.s 28)),ia 33 3 6,iz (.store 1 (.s 33) (.s 31))] [])
 (.seq
 (.reg [iq 34 (.loadn 4 (.s 6)),iz (.store 4 (.s 4) (.s 34)),iq 5 (.mv (.c (.bool true)))])
 .ret)))))}
theorem JnW :compFn Try.prog Try.f27 [[0,1,4]]=some KM:=by kernel_rfl
def QD :Eva.Fn:={ntmps:=62,res:=[.s 8],body:=
 (.seq
 (.reg [iq 5 (.box (.s 1)),iq 6 (.box (.s 2)),iq 8 (.mv (.c (.bool false)))])
 (.seqj []
 (.seq
 (.reg [ia 14 2 6,il 15 14,iq 16 (.lenL (.s 15)),ik 17 0])
 (.block 0
 (.loop [0,3,5,6,15,16,17]
 (.seq
 (.reg [iq 18 (.bin .lss (.s 17) (.s 16))])
 (.seqj [0,3,5,6,15,16,17]
 (.cond (.s 18)
 .skip
 (.exit 0))
 (.seqj [0,3,5,6,15,16,17]
 (.block 1
 (.seq
 (.reg [im 19 17,iq 20 (.iaddrS 1 (.s 15) (.s 17)),il 21 20,im 9 19,im 10 21])
 (.seq
 (.reg [ia 22 2 5,il 23 22,im 24 10,iq 25 (.call 91 [.s 23, .s 24]),im 11 25])
 (.seqj [0,3,5,6,9,11,15,16,17]
 (.seq
 (.reg [im 26 11,iq 27 (.bin .lss (.s 26) (.c (.int .i64 0))),im 28 27,ig 29 28 false (.mv (.s 11)),ig 30 28 false (.faddr 3 (.s 5)),ig 31 28 false (.load1 (.s 30)),ig 32 28 false (.lenL (.s 31)),ig 33 28 false (.bin .geq (.s 29) (.s 32)),iq 34 (.pick (.s 28) (.c (.bool true)) (.s 33)),im 35 34,ig 36 35 false (.mv (.s 9)),ig 37 35 false (.faddr 3 (.s 6)),ig 38 35 false (.load1 (.s 37)),ig 39 35 false (.lenL (.s 38)),ig 40 35 false (.bin .geq (.s 36) (.s 39)),iq 41 (.pick (.s 35) (.c (.bool true)) (.s 40))])
 (.cond (.s 41)
 (.seq
 (.reg [iq 8 (.mv (.c (.bool false)))])
 .ret)
 .skip))
 (.seq
 (.drw [ia 42 3 5,il 43 42,im 44 11,iq 45 (.iaddrS 1 (.s 43) (.s 44)),il 46 45,ia 47 3 6,il 48 47,im 49 9,iq 50 (.iaddrS 1 (.s 48) (.s 49)),il 51 50,im 12 46,im 13 51] [])
 (.seqj [0,3,5,6,12,13,15,16,17]
 (.seq
 (.reg [im 52 3,iq 53 (.not (.s 52))])
 (.cond (.s 53)
 (.reg [im 54 13,im 55 12,im 12 54,im 13 55])
 .skip))
 (.seq
 (.reg [im 56 0,im 57 12,im 58 13,iq 59 (.call 50 [.s 56, .s 57, .s 58]),iq 60 (.not (.s 59))])
 (.cond (.s 60)
 (.seq
 (.reg [iq 8 (.mv (.c (.bool false)))])
 .ret)
 .skip))))))))
 (.reg [iq 61 (.bin .add (.s 17) (.c (.int .i64 1))),im 17 61])))))))
 (.seq
 (.reg [iq 8 (.mv (.c (.bool true)))])
 .ret)))}
theorem JnX :compFn Try.prog Try.f85 [[],[0,3,5,6,15,16,17],[0,3,5,6,15,16,17],[0,3,5,6,15,16,17],[0,3,5,6,9,11,15,16,17],[0,3,5,6,12,13,15,16,17]]=some QD:=by kernel_rfl
def Kf :Eva.Fn:={ntmps:=19,res:=[.s 4],body:=
 (.seq
 (.reg [ik 4 0])
 (.seqj []
 (.seq
 (.reg [im 6 0,iq 7 (.lenL (.s 6)),ik 8 0])
 (.block 0
 (.loop [0,1,7,8]
 (.seq
 (.reg [iq 9 (.bin .lss (.s 8) (.s 7))])
 (.seqj [0,1,7,8]
 (.cond (.s 9)
 .skip
 (.exit 0))
 (.seqj [0,1,7,8]
 (.block 1
 (.seq
 (.reg [im 10 8,im 5 10])
 (.seq
 (.reg [im 11 1,im 12 0,im 13 5,iq 14 (.iaddrS 1 (.s 12) (.s 13)),il 15 14,iq 16 (.eq (.one .s) false (.s 11) (.s 15))])
 (.cond (.s 16)
 (.seq
 (.reg [im 17 5,im 4 17])
 .ret)
 .skip))))
 (.reg [iq 18 (.bin .add (.s 8) (.c (.int .i64 1))),im 8 18])))))))
 (.seq
 (.reg [iq 4 (.mv (.c (.int .i64 (-1))))])
 .ret)))}
theorem JnY :compFn Try.prog Try.f91 [[],[0,1,7,8],[0,1,7,8],[0,1,7,8]]=some Kf:=by kernel_rfl
def K9 :Eva.Fn:={ntmps:=35,res:=[.s 6],body:=
 (.seq
 (.reg [iq 4 (.box (.s 1)),iq 5 (.box (.s 2)),iq 6 (.mv (.c (.bool false)))])
 (.seqj []
 (.seq
 (.reg [ia 8 3 4,il 9 8,iq 10 (.lenL (.s 9)),ik 11 0])
 (.block 0
 (.loop [0,4,5,10,11]
 (.seq
 (.reg [iq 12 (.bin .lss (.s 11) (.s 10))])
 (.seqj [0,4,5,10,11]
 (.cond (.s 12)
 .skip
 (.exit 0))
 (.seqj [0,4,5,10,11]
 (.block 1
 (.seq
 (.reg [im 13 11,im 7 13])
 (.seq
 (.drw [im 14 7,ia 15 3 5,il 16 15,iq 17 (.lenL (.s 16)),iq 18 (.bin .geq (.s 14) (.s 17)),im 19 18,ig 20 19 false (.mv (.s 0)),ig 21 19 false (.faddr 3 (.s 4)),ig 22 19 false (.load1 (.s 21)),ig 23 19 false (.mv (.s 7)),ig 24 19 false (.iaddrS 1 (.s 22) (.s 23)),ig 25 19 false (.load1 (.s 24)),ig 26 19 false (.faddr 3 (.s 5)),ig 27 19 false (.load1 (.s 26)),ig 28 19 false (.mv (.s 7)),ig 29 19 false (.iaddrS 1 (.s 27) (.s 28)),ig 30 19 false (.load1 (.s 29)),⟨(some 31),(.call 50 [.s 20, .s 25, .s 30]),(some (19,false)),(some [])⟩,ig 32 19 false (.not (.s 31)),iq 33 (.pick (.s 19) (.c (.bool true)) (.s 32))] [])
 (.cond (.s 33)
 (.seq
 (.reg [iq 6 (.mv (.c (.bool false)))])
 .ret)
 .skip))))
 (.reg [iq 34 (.bin .add (.s 11) (.c (.int .i64 1))),im 11 34])))))))
 (.seq
 (.reg [iq 6 (.mv (.c (.bool true)))])
 .ret)))}
theorem JnZ :compFn Try.prog Try.f86 [[],[0,4,5,10,11],[0,4,5,10,11],[0,4,5,10,11]]=some K9:=by kernel_rfl
def JP :Eva.Fn:={ntmps:=173,res:=[.s 4, .s 5],body:=
 (.seq
 (.reg [iq 2 (.box (.s 0)),ik 4 0,ik 5 0])
 (.seq
 (.reg [ia 7 1 2,il 8 7,iq 9 (.iaddrS 4 (.s 8) (.c (.int .i64 0))),ia 10 0 9,il 11 10,im 6 11])
 (.seqj [2]
 (.seq
 (.reg [im 12 1])
 (.block 0
 (.seq
 (.reg [iq 14 (.eq (.one .s) false (.s 12) (.c (ofL [108,101,110]))),im 13 14])
 (.cond (.s 13)
 (.seq
 (.reg [iq 15 (.loadn 3 (.s 2)),im 16 6,iq 17 (.eq (.one .i) false (.s 16) (.c (.int .i64 3))),im 18 17,ig 19 18 false (.mv (.s 6)),ig 20 18 false (.eq (.one .i) false (.s 19) (.c (.int .i64 4))),iq 21 (.pick (.s 18) (.c (.bool true)) (.s 20)),im 22 21,ig 23 22 false (.mv (.s 6)),ig 24 22 false (.eq (.one .i) false (.s 23) (.c (.int .i64 5))),iq 25 (.pick (.s 22) (.c (.bool true)) (.s 24)),iq 26 (.call 52 [.s 15,(.c (.int .i64 2)), .s 25]),ie 27 0 26,ie 28 1 26,im 4 27,im 5 28])
 .ret)
 (.seq
 (.reg [iq 30 (.eq (.one .s) false (.s 12) (.c (ofL [110,111,116]))),im 29 30])
 (.cond (.s 29)
 (.seq
 (.drw [iq 31 (.loadn 3 (.s 2)),iq 32 (.loadn 3 (.s 2)),iq 33 (.bsl 1 1 [(.int .i64 0)] [(0,1,(.c (.int .i64 1)))]),⟨(some 34),(.call 53 [.s 32, .s 33]),none,(some [2])⟩,⟨(some 35),(.call 52 [.s 31,(.c (.int .i64 1)), .s 34]),none,(some [])⟩,ie 36 0 35,ie 37 1 35,im 4 36,im 5 37] [])
 .ret)
 (.seqj [2,6,12,38]
 (.seq
 (.reg [iq 39 (.eq (.one .s) false (.s 12) (.c (ofL [97,110,100]))),im 38 39])
 (.cond (.s 38)
 .skip
 (.reg [iq 40 (.eq (.one .s) false (.s 12) (.c (ofL [111,114]))),im 38 40])))
 (.cond (.s 38)
 (.seq
 (.drw [iq 41 (.loadn 3 (.s 2)),iq 42 (.loadn 3 (.s 2)),iq 43 (.bsl 1 2 [(.int .i64 0),(.int .i64 0)] [(0,1,(.c (.int .i64 1))),(1,1,(.c (.int .i64 1)))]),⟨(some 44),(.call 53 [.s 42, .s 43]),none,(some [2])⟩,⟨(some 45),(.call 52 [.s 41,(.c (.int .i64 1)), .s 44]),none,(some [])⟩,ie 46 0 45,ie 47 1 45,im 4 46,im 5 47] [])
 .ret)
 (.seq
 (.reg [iq 49 (.eq (.one .s) false (.s 12) (.c (ofL [101,113]))),im 48 49])
 (.cond (.s 48)
 (.seq
 (.drw [iq 50 (.loadn 3 (.s 2)),im 51 6,iq 52 (.bin .geq (.s 51) (.c (.int .i64 1))),im 53 52,ig 54 53 true (.mv (.s 6)),ig 55 53 true (.bin .leq (.s 54) (.c (.int .i64 3))),iq 56 (.pick (.s 53) (.s 55) (.c (.bool false))),im 57 56,ig 58 57 true (.loadn 3 (.s 2)),ig 59 57 true (.mv (.s 6)),ig 60 57 true (.mv (.s 6)),ig 61 57 true (.bsl 1 2 [(.int .i64 0),(.int .i64 0)] [(0,1,(.s 59)),(1,1,(.s 60))]),⟨(some 62),(.call 53 [.s 58, .s 61]),(some (57,true)),(some [2])⟩,iq 63 (.pick (.s 57) (.s 62) (.c (.bool false))),⟨(some 64),(.call 52 [.s 50,(.c (.int .i64 1)), .s 63]),none,(some [])⟩,ie 65 0 64,ie 66 1 64,im 4 65,im 5 66] [])
 .ret)
 (.seq
 (.reg [iq 68 (.eq (.one .s) false (.s 12) (.c (ofL [108,116]))),im 67 68])
 (.cond (.s 67)
 (.seq
 (.drw [iq 69 (.loadn 3 (.s 2)),iq 70 (.loadn 3 (.s 2)),iq 71 (.bsl 1 2 [(.int .i64 0),(.int .i64 0)] [(0,1,(.c (.int .i64 2))),(1,1,(.c (.int .i64 2)))]),⟨(some 72),(.call 53 [.s 70, .s 71]),none,(some [2])⟩,⟨(some 73),(.call 52 [.s 69,(.c (.int .i64 1)), .s 72]),none,(some [])⟩,ie 74 0 73,ie 75 1 73,im 4 74,im 5 75] [])
 .ret)
 (.seqj [2,6,12,76]
 (.seq
 (.reg [iq 77 (.eq (.one .s) false (.s 12) (.c (ofL [97,100,100]))),im 76 77])
 (.cond (.s 76)
 .skip
 (.seq
 (.reg [iq 78 (.eq (.one .s) false (.s 12) (.c (ofL [115,117,98]))),im 76 78])
 (.cond (.s 76)
 .skip
 (.seq
 (.reg [iq 79 (.eq (.one .s) false (.s 12) (.c (ofL [109,117,108]))),im 76 79])
 (.cond (.s 76)
 .skip
 (.seq
 (.reg [iq 80 (.eq (.one .s) false (.s 12) (.c (ofL [115,104,108]))),im 76 80])
 (.cond (.s 76)
 .skip
 (.reg [iq 81 (.eq (.one .s) false (.s 12) (.c (ofL [115,104,114]))),im 76 81])))))))))
 (.cond (.s 76)
 (.seq
 (.drw [iq 82 (.loadn 3 (.s 2)),iq 83 (.loadn 3 (.s 2)),iq 84 (.bsl 1 2 [(.int .i64 0),(.int .i64 0)] [(0,1,(.c (.int .i64 2))),(1,1,(.c (.int .i64 2)))]),⟨(some 85),(.call 53 [.s 83, .s 84]),none,(some [2])⟩,⟨(some 86),(.call 52 [.s 82,(.c (.int .i64 2)), .s 85]),none,(some [])⟩,ie 87 0 86,ie 88 1 86,im 4 87,im 5 88] [])
 .ret)
 (.seq
 (.reg [iq 90 (.eq (.one .s) false (.s 12) (.c (ofL [99,97,116]))),im 89 90])
 (.cond (.s 89)
 (.seq
 (.drw [iq 91 (.loadn 3 (.s 2)),iq 92 (.loadn 3 (.s 2)),iq 93 (.bsl 1 2 [(.int .i64 0),(.int .i64 0)] [(0,1,(.c (.int .i64 3))),(1,1,(.c (.int .i64 3)))]),⟨(some 94),(.call 53 [.s 92, .s 93]),none,(some [2])⟩,⟨(some 95),(.call 52 [.s 91,(.c (.int .i64 3)), .s 94]),none,(some [])⟩,ie 96 0 95,ie 97 1 95,im 4 96,im 5 97] [])
 .ret)
 (.seq
 (.reg [iq 99 (.eq (.one .s) false (.s 12) (.c (ofL [116,101,120,116]))),im 98 99])
 (.cond (.s 98)
 (.seq
 (.reg [iq 100 (.loadn 3 (.s 2)),im 101 6,iq 102 (.eq (.one .i) false (.s 101) (.c (.int .i64 2))),im 103 102,ig 104 103 false (.mv (.s 6)),ig 105 103 false (.eq (.one .i) false (.s 104) (.c (.int .i64 1))),iq 106 (.pick (.s 103) (.c (.bool true)) (.s 105)),iq 107 (.call 52 [.s 100,(.c (.int .i64 3)), .s 106]),ie 108 0 107,ie 109 1 107,im 4 108,im 5 109])
 .ret)
 (.seq
 (.reg [iq 111 (.eq (.one .s) false (.s 12) (.c (ofL [97,116]))),im 110 111])
 (.cond (.s 110)
 (.seq
 (.drw [iq 112 (.loadn 3 (.s 2)),iq 113 (.loadn 3 (.s 2)),iq 114 (.bsl 1 2 [(.int .i64 0),(.int .i64 0)] [(0,1,(.c (.int .i64 4))),(1,1,(.c (.int .i64 2)))]),⟨(some 115),(.call 53 [.s 113, .s 114]),none,(some [2])⟩,⟨(some 116),(.call 54 [.s 112, .s 115]),none,(some [])⟩,ie 117 0 116,ie 118 1 116,im 4 117,im 5 118] [])
 .ret)
 (.seq
 (.reg [iq 120 (.eq (.one .s) false (.s 12) (.c (ofL [103,101,116]))),im 119 120])
 (.cond (.s 119)
 (.seq
 (.reg [iq 121 (.loadn 3 (.s 2)),iq 122 (.call 55 [.s 121]),ie 123 0 122,ie 124 1 122,im 4 123,im 5 124])
 .ret)
 (.seq
 (.reg [iq 126 (.eq (.one .s) false (.s 12) (.c (ofL [104,97,115]))),im 125 126])
 (.cond (.s 125)
 (.seq
 (.drw [iq 127 (.loadn 3 (.s 2)),iq 128 (.loadn 3 (.s 2)),iq 129 (.bsl 1 1 [(.int .i64 0)] [(0,1,(.c (.int .i64 6)))]),⟨(some 130),(.call 53 [.s 128, .s 129]),none,(some [2])⟩,⟨(some 131),(.call 52 [.s 127,(.c (.int .i64 1)), .s 130]),none,(some [])⟩,ie 132 0 131,ie 133 1 131,im 4 132,im 5 133] [])
 .ret)
 (.seq
 (.reg [iq 135 (.eq (.one .s) false (.s 12) (.c (ofL [111,114,101,108,115,101]))),im 134 135])
 (.cond (.s 134)
 (.seq
 (.drw [iq 136 (.loadn 3 (.s 2)),iq 137 (.loadn 3 (.s 2)),iq 138 (.bsl 1 1 [(.int .i64 0)] [(0,1,(.c (.int .i64 6)))]),⟨(some 139),(.call 53 [.s 137, .s 138]),none,(some [2])⟩,im 140 139,ig 141 140 true (.faddr 1 (.s 2)),ig 142 140 true (.load1 (.s 141)),ig 143 140 true (.iaddrS 4 (.s 142) (.c (.int .i64 0))),ig 144 140 true (.faddr 3 (.s 143)),ig 145 140 true (.load1 (.s 144)),ig 146 140 true (.lenL (.s 145)),ig 147 140 true (.eq (.one .i) false (.s 146) (.c (.int .i64 1))),iq 148 (.pick (.s 140) (.s 147) (.c (.bool false))),im 149 148,ig 150 149 true (.faddr 2 (.s 2)),ig 151 149 true (.load1 (.s 150)),ig 152 149 true (.iaddrS 1 (.s 151) (.c (.int .i64 1))),ig 153 149 true (.load1 (.s 152)),ig 154 149 true (.faddr 1 (.s 2)),ig 155 149 true (.load1 (.s 154)),ig 156 149 true (.iaddrS 4 (.s 155) (.c (.int .i64 0))),ig 157 149 true (.faddr 3 (.s 156)),ig 158 149 true (.load1 (.s 157)),ig 159 149 true (.iaddrS 1 (.s 158) (.c (.int .i64 0))),ig 160 149 true (.load1 (.s 159)),ig 161 149 true (.eq (.one .i) false (.s 153) (.s 160)),iq 162 (.pick (.s 149) (.s 161) (.c (.bool false))),⟨(some 163),(.call 54 [.s 136, .s 162]),none,(some [])⟩,ie 164 0 163,ie 165 1 163,im 4 164,im 5 165] [])
 .ret)
 .skip))))))))))))))))))))))))))
 (.seq
 (.drw [iq 166 (.loadn 3 (.s 2)),iq 167 (.loadn 3 (.s 2)),iq 168 (.bsl 1 1 [(.int .i64 0)] [(0,1,(.c (.int .i64 2)))]),⟨(some 169),(.call 53 [.s 167, .s 168]),none,(some [2])⟩,⟨(some 170),(.call 52 [.s 166,(.c (.int .i64 2)), .s 169]),none,(some [])⟩,ie 171 0 170,ie 172 1 170,im 4 171,im 5 172] [])
 .ret))))}
theorem Jn0 :compFn Try.prog Try.f28 [[2],[2,6,12,38],[2,6,12,76]]=some JP:=by kernel_rfl
def KB :Eva.Fn:={ntmps:=16,res:=[.s 6, .s 7],body:=
 (.seq
 (.reg [iq 3 (.box (.s 0)),ik 6 0,ik 7 0])
 (.seqj [1,3]
 (.seq
 (.reg [im 8 2,iq 9 (.not (.s 8))])
 (.cond (.s 9)
 (.seq
 (.reg [ik 6 0,ik 7 17])
 .ret)
 .skip))
 (.seq
 (.reg [ia 10 0 3,il 11 10,im 12 1,iq 13 (.call 74 [.s 11, .s 12]),ie 14 0 13,ie 15 1 13,im 6 14,im 7 15])
 .ret)))}
theorem Jn1 :compFn Try.prog Try.f52 [[1,3]]=some KB:=by kernel_rfl
def KN :Eva.Fn:={ntmps:=12,res:=[.s 4, .s 5],body:=
 (.seq
 (.reg [ik 4 0,ik 5 0])
 (.seq
 (.reg [im 6 0,im 7 1,iq 8 (.build [(.int .i64 0),(ofL []), .snil, .snil] [(0,1,(.s 7))]),iq 9 (.call 64 [.s 6, .s 8]),ie 10 0 9,ie 11 1 9,im 4 10,im 5 11])
 .ret))}
theorem Jn2 :compFn Try.prog Try.f74 []=some KN:=by kernel_rfl
def KO :Eva.Fn:={ntmps:=23,res:=[.s 4],body:=
 (.seq
 (.reg [iq 2 (.box (.s 0)),iq 4 (.mv (.c (.bool false)))])
 (.seqj []
 (.seq
 (.reg [im 7 1,iq 8 (.lenL (.s 7)),ik 9 0])
 (.block 0
 (.loop [2,7,8,9]
 (.seq
 (.reg [iq 10 (.bin .lss (.s 9) (.s 8))])
 (.seqj [2,7,8,9]
 (.cond (.s 10)
 .skip
 (.exit 0))
 (.seqj [2,7,8,9]
 (.block 1
 (.seq
 (.reg [im 11 9,iq 12 (.iaddrS 1 (.s 7) (.s 9)),il 13 12,im 5 11,im 6 13])
 (.seq
 (.reg [ia 14 1 2,il 15 14,im 16 5,iq 17 (.iaddrS 4 (.s 15) (.s 16)),ia 18 0 17,il 19 18,im 20 6,iq 21 (.eq (.one .i) true (.s 19) (.s 20))])
 (.cond (.s 21)
 (.seq
 (.reg [iq 4 (.mv (.c (.bool false)))])
 .ret)
 .skip))))
 (.reg [iq 22 (.bin .add (.s 9) (.c (.int .i64 1))),im 9 22])))))))
 (.seq
 (.reg [iq 4 (.mv (.c (.bool true)))])
 .ret)))}
theorem Jn3 :compFn Try.prog Try.f53 [[],[2,7,8,9],[2,7,8,9],[2,7,8,9]]=some KO:=by kernel_rfl
def Qw :Eva.Fn:={ntmps:=24,res:=[.s 4, .s 5],body:=
 (.seq
 (.reg [iq 2 (.box (.s 0)),ik 4 0,ik 5 0])
 (.seqj [2]
 (.seq
 (.reg [im 6 1,iq 7 (.not (.s 6)),im 8 7,ig 9 8 false (.faddr 1 (.s 2)),ig 10 8 false (.load1 (.s 9)),ig 11 8 false (.iaddrS 4 (.s 10) (.c (.int .i64 0))),ig 12 8 false (.faddr 3 (.s 11)),ig 13 8 false (.load1 (.s 12)),ig 14 8 false (.lenL (.s 13)),ig 15 8 false (.eq (.one .i) false (.s 14) (.c (.int .i64 0))),iq 16 (.pick (.s 8) (.c (.bool true)) (.s 15))])
 (.cond (.s 16)
 (.seq
 (.reg [ik 4 0,ik 5 17])
 .ret)
 .skip))
 (.seq
 (.reg [ia 17 1 2,il 18 17,iq 19 (.iaddrS 4 (.s 18) (.c (.int .i64 0))),ia 20 3 19,il 21 20,iq 22 (.iaddrS 1 (.s 21) (.c (.int .i64 0))),il 23 22,im 4 23,ik 5 0])
 .ret)))}
theorem Jn4 :compFn Try.prog Try.f54 [[2]]=some Qw:=by kernel_rfl
def Qx :Eva.Fn:={ntmps:=44,res:=[.s 2, .s 3],body:=
 (.seq
 (.reg [iq 1 (.box (.s 0)),ik 2 0,ik 3 0])
 (.seq
 (.drw [iq 11 (.loadn 3 (.s 1)),iq 12 (.loadn 3 (.s 1)),iq 13 (.bsl 1 2 [(.int .i64 0),(.int .i64 0)] [(0,1,(.c (.int .i64 5))),(1,1,(.c (.int .i64 3)))]),⟨(some 14),(.call 53 [.s 12, .s 13]),none,(some [1])⟩,⟨(some 15),(.call 54 [.s 11, .s 14]),none,(some [])⟩,im 10 15,ie 16 0 10,ie 17 1 10,im 4 16,im 5 17] [])
 (.seqj [1,4]
 (.seq
 (.reg [im 18 5,iq 19 (.eq (.one .i) true (.s 18) (.c (.int .i64 0)))])
 (.cond (.s 19)
 (.seq
 (.reg [im 20 5,ik 2 0,im 3 20])
 .ret)
 .skip))
 (.seq
 (.reg [ia 22 0 1,il 23 22,im 24 4,iq 25 (.call 26 [.s 23, .s 24]),im 21 25,ie 26 0 21,ie 27 1 21,im 6 26,im 7 27])
 (.seqj [1,4]
 (.seq
 (.reg [ia 29 0 1,il 30 29,im 31 6,iq 32 (.call 27 [.s 30, .s 31]),im 28 32,ie 33 0 28,ie 34 1 28,iq 8 (.alloc [(.int .i64 0),(ofL []), .snil, .snil]),iz (.store 4 (.s 8) (.s 33)),im 9 34])
 (.seq
 (.reg [ia 35 0 8,il 36 35,iq 37 (.eq (.one .i) false (.s 36) (.c (.int .i64 6)))])
 (.cond (.s 37)
 (.seq
 (.reg [ik 2 0,ik 3 17])
 .ret)
 .skip)))
 (.seq
 (.reg [ia 38 0 1,il 39 38,im 40 4,iq 41 (.call 75 [.s 39, .s 40]),ie 42 0 41,ie 43 1 41,im 2 42,im 3 43])
 .ret))))))}
theorem Jn5 :compFn Try.prog Try.f55 [[1,4],[1,4]]=some Qx:=by kernel_rfl
def QM :Eva.Fn:={ntmps:=13,res:=[.s 4, .s 5],body:=
 (.seq
 (.reg [ik 4 0,ik 5 0])
 (.seq
 (.reg [im 6 0,im 7 1,iq 8 (.bsl 1 1 [(.int .i64 0)] [(0,1,(.s 7))]),iq 9 (.build [(.int .i64 0),(ofL []), .snil, .snil] [(0,1,(.c (.int .i64 6))),(3,1,(.s 8))]),iq 10 (.call 64 [.s 6, .s 9]),ie 11 0 10,ie 12 1 10,im 4 11,im 5 12])
 .ret))}
theorem Jn6 :compFn Try.prog Try.f75 []=some QM:=by kernel_rfl
def Qp :Eva.Fn:={ntmps:=41,res:=[.s 4],body:=
 (.seq
 (.reg [iq 2 (.box (.s 0)),ik 4 0])
 (.seqj [1,2]
 (.seq
 (.reg [im 6 1,iq 7 (.bin .leq (.s 6) (.c (.int .i64 0))),im 8 7,ig 9 8 false (.faddr 3 (.s 2)),ig 10 8 false (.load1 (.s 9)),ig 11 8 false (.lenL (.s 10)),ig 12 8 false (.bin .gtr (.s 11) (.c (.int .i64 10))),iq 13 (.pick (.s 8) (.c (.bool true)) (.s 12)),im 14 13,ig 15 14 false (.faddr 2 (.s 2)),ig 16 14 false (.load1 (.s 15)),ig 17 14 false (.lenL (.s 16)),ig 18 14 false (.bin .gtr (.s 17) (.c (.int .i64 20))),iq 19 (.pick (.s 14) (.c (.bool true)) (.s 18))])
 (.cond (.s 19)
 (.seq
 (.reg [ik 4 0])
 .ret)
 .skip))
 (.seq
 (.reg [im 20 1,iq 21 (.bin .sub (.s 20) (.c (.int .i64 1))),im 1 21])
 (.seqj [1]
 (.seq
 (.reg [ik 5 0])
 (.block 0
 (.loop [1,2,5]
 (.seqj [1,2,5]
 (.seq
 (.reg [im 22 5,ia 23 3 2,il 24 23,iq 25 (.lenL (.s 24)),iq 26 (.bin .lss (.s 22) (.s 25)),im 27 26,ig 28 27 true (.mv (.s 1)),ig 29 27 true (.bin .gtr (.s 28) (.c (.int .i64 0))),iq 30 (.pick (.s 27) (.s 29) (.c (.bool false)))])
 (.cond (.s 30)
 .skip
 (.exit 0)))
 (.seqj [1,2,5]
 (.block 1
 (.reg [ia 33 3 2,il 34 33,im 35 5,iq 36 (.iaddrS 4 (.s 34) (.s 35)),iq 37 (.loadn 4 (.s 36)),im 38 1,iq 39 (.call 5 [.s 37, .s 38]),im 1 39]))
 (.reg [im 31 5,iq 32 (.bin .add (.s 31) (.c (.int .i64 1))),im 5 32]))))))
 (.seq
 (.reg [im 40 1,im 4 40])
 .ret)))))}
theorem Jpw :compFn Try.prog Try.f5 [[1,2],[1],[1,2,5],[1,2,5],[1,2,5]]=some Qp:=by kernel_rfl
def Qa :Eva.Fn:={ntmps:=118,res:=[(.cn 6 4)],body:=
 (.seq
 (.reg [iq 3 (.box (.s 0)),iq 6 (.alloc [(.int .i64 0),(ofL []), .snil, .snil])])
 (.seq
 (.reg [ia 11 0 3,il 12 11,iq 13 (.call 13 [.s 12,(.c (.int .i64 9))]),iq 14 (.bin .add (.c (.int .i64 1)) (.s 13)),im 7 14])
 (.seqj [1,2,3,6,7]
 (.seq
 (.reg [im 15 7,iq 16 (.eq (.one .i) false (.s 15) (.c (.int .i64 9))),im 17 16,ig 18 17 true (.mv (.s 2)),ig 19 17 true (.lenL (.s 18)),ig 20 17 true (.eq (.one .i) false (.s 19) (.c (.int .i64 0))),iq 21 (.pick (.s 17) (.s 20) (.c (.bool false))),im 22 21,ig 23 22 false (.mv (.s 1)),ig 24 22 false (.bin .leq (.s 23) (.c (.int .i64 1))),ig 25 22 false (.mv (.s 24)),ig 26 25 true (.mv (.s 7)),ig 27 25 true (.bin .geq (.s 26) (.c (.int .i64 4))),ig 28 22 false (.pick (.s 25) (.s 27) (.c (.bool false))),ig 29 22 false (.mv (.s 28)),ig 30 29 true (.mv (.s 7)),ig 31 29 true (.bin .leq (.s 30) (.c (.int .i64 8))),ig 32 22 false (.pick (.s 29) (.s 31) (.c (.bool false))),iq 33 (.pick (.s 22) (.c (.bool true)) (.s 32))])
 (.cond (.s 33)
 (.reg [ik 7 2])
 .skip))
 (.seq
 (.reg [im 34 7,iq 35 (.build [(.int .i64 0),(ofL []), .snil, .snil] [(0,1,(.s 34))]),iq 8 (.alloc [(.int .i64 0),(ofL []), .snil, .snil]),iz (.store 4 (.s 8) (.s 35))])
 (.seqj [6,8]
 (.seq
 (.reg [im 36 7])
 (.block 0
 (.seq
 (.reg [iq 38 (.eq (.one .i) false (.s 36) (.c (.int .i64 9))),im 37 38])
 (.cond (.s 37)
 (.reg [im 39 2,ia 40 1 3,il 41 40,im 42 2,iq 43 (.lenL (.s 42)),iq 44 (.call 13 [.s 41, .s 43]),iq 45 (.iaddrS 1 (.s 39) (.s 44)),il 46 45,ia 47 1 8,iz (.store 1 (.s 47) (.s 46))])
 (.seqj [1,2,3,6,7,8,36,48]
 (.seq
 (.reg [iq 49 (.eq (.one .i) false (.s 36) (.c (.int .i64 4))),im 48 49])
 (.cond (.s 48)
 .skip
 (.seq
 (.reg [iq 50 (.eq (.one .i) false (.s 36) (.c (.int .i64 5))),im 48 50])
 (.cond (.s 48)
 .skip
 (.reg [iq 51 (.eq (.one .i) false (.s 36) (.c (.int .i64 6))),im 48 51])))))
 (.cond (.s 48)
 (.seq
 (.reg [iq 52 (.loadn 4 (.s 3)),iq 53 (.call 14 [.s 52,(.c (.int .i64 0))]),im 54 1,iq 55 (.bin .sub (.s 54) (.c (.int .i64 1))),im 56 2,iq 57 (.call 6 [.s 53, .s 55, .s 56]),iq 58 (.bsl 4 1 [(.int .i64 0),(ofL []), .snil, .snil] [(0,4,(.s 57))]),ia 59 3 8,iz (.store 1 (.s 59) (.s 58))])
 (.seq
 (.reg [im 60 7,iq 61 (.eq (.one .i) false (.s 60) (.c (.int .i64 6))),im 62 61,ig 63 62 true (.faddr 3 (.s 8)),ig 64 62 true (.load1 (.s 63)),ig 65 62 true (.iaddrS 4 (.s 64) (.c (.int .i64 0))),ig 66 62 true (.faddr 0 (.s 65)),ig 67 62 true (.load1 (.s 66)),ig 68 62 true (.eq (.one .i) false (.s 67) (.c (.int .i64 6))),iq 69 (.pick (.s 62) (.s 68) (.c (.bool false)))])
 (.cond (.s 69)
 (.seq
 (.reg [ia 70 3 8,il 71 70,iq 72 (.iaddrS 4 (.s 71) (.c (.int .i64 0))),iq 73 (.loadn 4 (.s 72)),iz (.store 4 (.s 6) (.s 73))])
 .ret)
 .skip)))
 (.seqj [1,2,3,6,7,8,74]
 (.seq
 (.reg [iq 75 (.eq (.one .i) false (.s 36) (.c (.int .i64 7))),im 74 75])
 (.cond (.s 74)
 .skip
 (.reg [iq 76 (.eq (.one .i) false (.s 36) (.c (.int .i64 8))),im 74 76])))
 (.cond (.s 74)
 (.seq
 (.reg [ik 9 0])
 (.block 1
 (.loop [1,2,3,6,7,8,9]
 (.seqj [1,2,3,6,7,8,9]
 (.seq
 (.reg [im 77 9,ia 78 2 3,il 79 78,iq 80 (.lenL (.s 79)),iq 81 (.bin .lss (.s 77) (.s 80)),im 82 81,ig 83 82 true (.mv (.s 9)),ig 84 82 true (.bin .lss (.s 83) (.c (.int .i64 4))),iq 85 (.pick (.s 82) (.s 84) (.c (.bool false))),im 86 85,ig 87 86 false (.mv (.s 9)),ig 88 86 false (.eq (.one .i) false (.s 87) (.c (.int .i64 0))),ig 89 86 false (.mv (.s 88)),ig 90 89 true (.mv (.s 7)),ig 91 89 true (.eq (.one .i) false (.s 90) (.c (.int .i64 8))),ig 92 86 false (.pick (.s 89) (.s 91) (.c (.bool false))),iq 93 (.pick (.s 86) (.c (.bool true)) (.s 92))])
 (.cond (.s 93)
 .skip
 (.exit 1)))
 (.seqj [1,2,3,6,7,8,9]
 (.block 2
 (.seq
 (.reg [iq 10 (.mv (.c (ofL [117])))])
 (.seqj [1,2,3,6,7,8,9,10]
 (.seq
 (.reg [im 96 9,ia 97 2 3,il 98 97,iq 99 (.lenL (.s 98)),iq 100 (.bin .lss (.s 96) (.s 99))])
 (.cond (.s 100)
 (.reg [ia 101 2 3,il 102 101,im 103 9,iq 104 (.iaddrS 1 (.s 102) (.s 103)),il 105 104,iq 106 (.call 15 [.s 105]),im 10 106])
 .skip))
 (.drw [iq 107 (.loadn 4 (.s 8)),im 108 10,iq 109 (.loadn 4 (.s 3)),im 110 9,⟨(some 111),(.call 14 [.s 109, .s 110]),none,(some [8])⟩,im 112 1,iq 113 (.bin .sub (.s 112) (.c (.int .i64 1))),im 114 2,⟨(some 115),(.call 6 [.s 111, .s 113, .s 114]),none,(some [8])⟩,⟨(some 116),(.call 16 [.s 107, .s 108, .s 115]),none,(some [])⟩,iz (.store 4 (.s 8) (.s 116))] []))))
 (.reg [im 94 9,iq 95 (.bin .add (.s 94) (.c (.int .i64 1))),im 9 95]))))))
 .skip))))))))
 (.seq
 (.reg [iq 117 (.loadn 4 (.s 8)),iz (.store 4 (.s 6) (.s 117))])
 .ret))))))}
theorem Jpx :compFn Try.prog Try.f6 [[1,2,3,6,7],[6,8],[1,2,3,6,7,8,36,48],[1,2,3,6,7,8,74],[1,2,3,6,7,8,9],[1,2,3,6,7,8,9],[1,2,3,6,7,8,9],[1,2,3,6,7,8,9,10]]=some Qa:=by kernel_rfl
def Kh :Eva.Fn:={ntmps:=15,res:=[.s 4],body:=
 (.seq
 (.reg [ik 4 0])
 (.seq
 (.reg [im 6 0,im 7 1,iq 8 (.bin .rem (.s 6) (.s 7)),im 5 8])
 (.seqj [5]
 (.seq
 (.reg [im 9 5,iq 10 (.bin .lss (.s 9) (.c (.int .i64 0)))])
 (.cond (.s 10)
 (.reg [im 11 5,im 12 1,iq 13 (.bin .add (.s 11) (.s 12)),im 5 13])
 .skip))
 (.seq
 (.reg [im 14 5,im 4 14])
 .ret))))}
theorem Jn7 :compFn Try.prog Try.f13 [[5]]=some Kh:=by kernel_rfl
def Qq :Eva.Fn:={ntmps:=25,res:=[(.cn 4 4)],body:=
 (.seq
 (.reg [iq 2 (.box (.s 0)),iq 4 (.alloc [(.int .i64 0),(.int .i64 0), .snil, .snil])])
 (.seqj [1,2,4]
 (.seq
 (.reg [ia 5 3 2,il 6 5,iq 7 (.lenL (.s 6)),iq 8 (.eq (.one .i) false (.s 7) (.c (.int .i64 0)))])
 (.cond (.s 8)
 (.seq
 (.reg [ia 9 1 2,il 10 9,im 11 1,iq 12 (.bin .add (.s 10) (.s 11)),ia 13 0 2,il 14 13,iq 15 (.build [(.int .i64 0),(.int .i64 0), .snil, .snil] [(0,1,(.s 12)),(1,1,(.s 14))]),iz (.store 4 (.s 4) (.s 15))])
 .ret)
 .skip))
 (.seq
 (.drw [ia 16 3 2,il 17 16,im 18 1,ia 19 3 2,il 20 19,iq 21 (.lenL (.s 20)),iq 22 (.bin .rem (.s 18) (.s 21)),iq 23 (.iaddrS 4 (.s 17) (.s 22)),iq 24 (.loadn 4 (.s 23)),iz (.store 4 (.s 4) (.s 24))] [])
 .ret)))}
theorem Jn8 :compFn Try.prog Try.f14 [[1,2,4]]=some Qq:=by kernel_rfl
def Qb :Eva.Fn:={ntmps:=8,res:=[.s 2],body:=
 (.seq
 (.reg [iq 2 (.mv (.c (ofL [])))])
 (.seq
 (.reg [iq 3 (.bsl 1 7 [(ofL []),(ofL []),(ofL []),(ofL []),(ofL []),(ofL []),(ofL [])] [(0,1,(.c (ofL [97]))),(1,1,(.c (ofL [98]))),(2,1,(.c (ofL [99]))),(3,1,(.c (ofL [110,97,109,101]))),(4,1,(.c (ofL [110]))),(5,1,(.c (ofL [73,110,116]))),(6,1,(.c (ofL [116,121,112,101])))]),im 4 0,iq 5 (.call 13 [.s 4,(.c (.int .i64 7))]),iq 6 (.iaddrS 1 (.s 3) (.s 5)),il 7 6,im 2 7])
 .ret))}
theorem Jn9 :compFn Try.prog Try.f15 []=some Qb:=by kernel_rfl
def Qr :Eva.Fn:={ntmps:=74,res:=[(.cn 6 4)],body:=
 (.seq
 (.reg [iq 3 (.box (.s 0)),iq 5 (.box (.s 2)),iq 6 (.alloc [(.int .i64 0),(ofL []), .snil, .snil])])
 (.seq
 (.reg [ik 7 0])
 (.seqj [1,3,5,6,7]
 (.block 0
 (.loop [1,3,5,6,7]
 (.seqj [1,3,5,6,7]
 (.seq
 (.reg [im 10 7,ia 11 2 3,il 12 11,iq 13 (.lenL (.s 12)),iq 14 (.bin .lss (.s 10) (.s 13)),im 15 14,ig 16 15 true (.faddr 2 (.s 3)),ig 17 15 true (.load1 (.s 16)),ig 18 15 true (.mv (.s 7)),ig 19 15 true (.iaddrS 1 (.s 17) (.s 18)),ig 20 15 true (.load1 (.s 19)),ig 21 15 true (.mv (.s 1)),ig 22 15 true (.bin .lss (.s 20) (.s 21)),iq 23 (.pick (.s 15) (.s 22) (.c (.bool false)))])
 (.cond (.s 23)
 .skip
 (.exit 0)))
 (.block 1
 (.reg [im 24 7,iq 25 (.bin .add (.s 24) (.c (.int .i64 1))),im 7 25])))))
 (.seqj [1,3,5,6,7]
 (.seq
 (.reg [im 26 7,ia 27 2 3,il 28 27,iq 29 (.lenL (.s 28)),iq 30 (.bin .lss (.s 26) (.s 29)),im 31 30,ig 32 31 true (.faddr 2 (.s 3)),ig 33 31 true (.load1 (.s 32)),ig 34 31 true (.mv (.s 7)),ig 35 31 true (.iaddrS 1 (.s 33) (.s 34)),ig 36 31 true (.load1 (.s 35)),ig 37 31 true (.mv (.s 1)),ig 38 31 true (.eq (.one .s) false (.s 36) (.s 37)),iq 39 (.pick (.s 31) (.s 38) (.c (.bool false)))])
 (.cond (.s 39)
 (.seq
 (.reg [iq 40 (.loadn 4 (.s 3)),iz (.store 4 (.s 6) (.s 40))])
 .ret)
 .skip))
 (.seq
 (.reg [iq 41 (.bsl 1 0 [] []),ia 42 2 3,il 43 42,im 44 7,iq 45 (.cutL 1 (.s 43) none (some (.s 44)) none),iq 46 (.app 1 (.s 41) (.s 45)),im 8 46])
 (.seq
 (.reg [iq 47 (.bsl 4 0 [] []),ia 48 3 3,il 49 48,im 50 7,iq 51 (.cutL 4 (.s 49) none (some (.s 50)) none),iq 52 (.app 4 (.s 47) (.s 51)),im 9 52])
 (.seq
 (.drw [im 53 8,im 54 1,iq 55 (.bsl 1 1 [(ofL [])] [(0,1,(.s 54))]),iq 56 (.app 1 (.s 53) (.s 55)),ia 57 2 3,il 58 57,im 59 7,iq 60 (.cutL 1 (.s 58) (some (.s 59)) none none),iq 61 (.app 1 (.s 56) (.s 60)),im 62 9,iq 63 (.loadn 4 (.s 5)),iq 64 (.bsl 4 1 [(.int .i64 0),(ofL []), .snil, .snil] [(0,4,(.s 63))]),iq 65 (.app 4 (.s 62) (.s 64)),ia 66 3 3,il 67 66,im 68 7,iq 69 (.cutL 4 (.s 67) (some (.s 68)) none none),iq 70 (.app 4 (.s 65) (.s 69)),ia 71 2 3,iz (.store 1 (.s 71) (.s 61)),ia 72 3 3,iz (.store 1 (.s 72) (.s 70))] [([53],[57]),([53],[5]),([53],[66]),([56],[5]),([56],[66]),([62],[66])])
 (.seq
 (.reg [iq 73 (.loadn 4 (.s 3)),iz (.store 4 (.s 6) (.s 73))])
 .ret))))))))}
theorem Joa :compFn Try.prog Try.f16 [[1,3,5,6,7],[1,3,5,6,7],[1,3,5,6,7],[1,3,5,6,7]]=some Qr:=by kernel_rfl
def Qs :Eva.Fn:={ntmps:=140,res:=[.s 2, .s 3],body:=
 (.seq
 (.reg [iq 1 (.box (.s 0)),iq 2 (.mv (.c .pnil)),ik 3 0])
 (.seqj [1]
 (.seq
 (.reg [iq 13 (.loadn 6 (.s 1)),iq 14 (.call 20 [.s 13]),iq 15 (.eq (.one .i) true (.s 14) (.c (.int .i64 0)))])
 (.cond (.s 15)
 (.seq
 (.reg [iq 16 (.loadn 6 (.s 1)),iq 17 (.call 20 [.s 16]),iq 2 (.mv (.c .pnil)),im 3 17])
 .ret)
 .skip))
 (.seq
 (.reg [iq 18 (.loadn 6 (.s 1)),iq 19 (.build [.snil, .snil,(.int .i64 0),(ofL []), .snil, .snil, .snil, .snil, .snil,(.int .i64 0), .snil] [(2,6,(.s 18))]),iq 20 (.box (.s 19)),im 4 20])
 (.seqj [1,4]
 (.seq
 (.reg [ik 5 0])
 (.block 0
 (.loop [1,4,5]
 (.seqj [1,4,5]
 (.seq
 (.reg [im 21 5,ia 22 4 1,il 23 22,iq 24 (.lenL (.s 23)),iq 25 (.bin .lss (.s 21) (.s 24))])
 (.cond (.s 25)
 .skip
 (.exit 0)))
 (.seqj [1,4,5]
 (.block 1
 (.seq
 (.reg [im 29 4,ia 30 4 1,il 31 30,im 32 5,iq 33 (.iaddrS 5 (.s 31) (.s 32)),ia 34 1 33,iq 35 (.loadn 4 (.s 34)),iq 36 (.call 21 [.s 29, .s 35]),im 28 36,ie 37 0 28,ie 38 1 28,im 6 37,im 7 38])
 (.seqj [1,4,5,6]
 (.seq
 (.reg [im 39 7,iq 40 (.eq (.one .i) true (.s 39) (.c (.int .i64 0)))])
 (.cond (.s 40)
 (.seq
 (.reg [im 41 7,iq 2 (.mv (.c .pnil)),im 3 41])
 .ret)
 .skip))
 (.reg [im 42 4,im 43 4,iq 44 (.nilck (.s 43)),ia 45 8 44,il 46 45,im 47 6,iq 48 (.bsl 1 1 [(.int .i64 0)] [(0,1,(.s 47))]),iq 49 (.app 1 (.s 46) (.s 48)),iq 50 (.nilck (.s 42)),ia 51 8 50,iz (.store 1 (.s 51) (.s 49))]))))
 (.reg [im 26 5,iq 27 (.bin .add (.s 26) (.c (.int .i64 1))),im 5 27]))))))
 (.seq
 (.reg [im 53 4,ia 54 0 1,iq 55 (.loadn 4 (.s 54)),iq 56 (.call 21 [.s 53, .s 55]),im 52 56,ie 57 0 52,ie 58 1 52,im 8 57,im 9 58])
 (.seqj [1,4,8]
 (.seq
 (.reg [im 59 9,iq 60 (.eq (.one .i) true (.s 59) (.c (.int .i64 0)))])
 (.cond (.s 60)
 (.seq
 (.reg [im 61 9,iq 2 (.mv (.c .pnil)),im 3 61])
 .ret)
 .skip))
 (.seq
 (.reg [im 62 4,im 63 8,iq 64 (.nilck (.s 62)),ia 65 9 64,iz (.store 1 (.s 65) (.s 63))])
 (.seqj [4]
 (.seq
 (.reg [ik 10 0])
 (.block 2
 (.loop [1,4,10]
 (.seqj [1,4,10]
 (.seq
 (.reg [im 66 10,ia 67 5 1,il 68 67,iq 69 (.lenL (.s 68)),iq 70 (.bin .lss (.s 66) (.s 69))])
 (.cond (.s 70)
 .skip
 (.exit 2)))
 (.seqj [1,4,10]
 (.block 3
 (.seq
 (.reg [ia 73 5 1,il 74 73,im 75 10,iq 76 (.iaddrS 6 (.s 74) (.s 75)),ia 77 0 76,il 78 77,iq 79 (.build [(ofL []), .snil,(.int .i64 0)] [(0,1,(.s 78))]),iq 11 (.alloc [(ofL []), .snil,(.int .i64 0)]),iz (.store 3 (.s 11) (.s 79))])
 (.seqj [1,4,10,11]
 (.seq
 (.reg [ik 12 0])
 (.block 4
 (.loop [1,4,10,11,12]
 (.seqj [1,4,10,11,12]
 (.seq
 (.reg [im 80 12,ia 81 5 1,il 82 81,im 83 10,iq 84 (.iaddrS 6 (.s 82) (.s 83)),ia 85 1 84,il 86 85,iq 87 (.lenL (.s 86)),iq 88 (.bin .lss (.s 80) (.s 87))])
 (.cond (.s 88)
 .skip
 (.exit 4)))
 (.seqj [1,4,10,11,12]
 (.block 5
 (.seq
 (.reg [im 92 4,ia 93 5 1,il 94 93,im 95 10,iq 96 (.iaddrS 6 (.s 94) (.s 95)),ia 97 1 96,il 98 97,im 99 12,iq 100 (.iaddrS 4 (.s 98) (.s 99)),iq 101 (.loadn 4 (.s 100)),iq 102 (.call 21 [.s 92, .s 101]),im 91 102,ie 103 0 91,ie 104 1 91,im 8 103,im 9 104])
 (.seqj [1,4,8,10,11,12]
 (.seq
 (.reg [im 105 9,iq 106 (.eq (.one .i) true (.s 105) (.c (.int .i64 0)))])
 (.cond (.s 106)
 (.seq
 (.reg [im 107 9,iq 2 (.mv (.c .pnil)),im 3 107])
 .ret)
 .skip))
 (.reg [ia 108 1 11,il 109 108,im 110 8,iq 111 (.bsl 1 1 [(.int .i64 0)] [(0,1,(.s 110))]),iq 112 (.app 1 (.s 109) (.s 111)),ia 113 1 11,iz (.store 1 (.s 113) (.s 112))]))))
 (.reg [im 89 12,iq 90 (.bin .add (.s 89) (.c (.int .i64 1))),im 12 90]))))))
 (.seq
 (.reg [im 115 4,ia 116 5 1,il 117 116,im 118 10,iq 119 (.iaddrS 6 (.s 117) (.s 118)),ia 120 2 119,iq 121 (.loadn 4 (.s 120)),iq 122 (.call 21 [.s 115, .s 121]),im 114 122,ie 123 0 114,ie 124 1 114,ia 125 2 11,iz (.store 1 (.s 125) (.s 123)),im 9 124])
 (.seqj [1,4,10,11]
 (.seq
 (.reg [im 126 9,iq 127 (.eq (.one .i) true (.s 126) (.c (.int .i64 0)))])
 (.cond (.s 127)
 (.seq
 (.reg [im 128 9,iq 2 (.mv (.c .pnil)),im 3 128])
 .ret)
 .skip))
 (.drw [im 129 4,im 130 4,iq 131 (.nilck (.s 130)),ia 132 10 131,il 133 132,iq 134 (.loadn 3 (.s 11)),iq 135 (.bsl 3 1 [(ofL []), .snil,(.int .i64 0)] [(0,3,(.s 134))]),iq 136 (.app 3 (.s 133) (.s 135)),iq 137 (.nilck (.s 129)),ia 138 10 137,iz (.store 1 (.s 138) (.s 136))] []))))))
 (.reg [im 71 10,iq 72 (.bin .add (.s 71) (.c (.int .i64 1))),im 10 72]))))))
 (.seq
 (.reg [im 139 4,im 2 139,ik 3 0])
 .ret)))))))))}
theorem Jpy :compFn Try.prog Try.f8 [[1],[1,4],[1,4,5],[1,4,5],[1,4,5],[1,4,5,6],[1,4,8],[4],[1,4,10],[1,4,10],[1,4,10],[1,4,10,11],[1,4,10,11,12],[1,4,10,11,12],[1,4,10,11,12],[1,4,8,10,11,12],[1,4,10,11]]=some Qs:=by kernel_rfl
def KP :Eva.Fn:={ntmps:=182,res:=[.s 2],body:=
 (.seq
 (.reg [iq 1 (.box (.s 0)),ik 2 0])
 (.seqj [1]
 (.seq
 (.reg [ia 12 4 1,il 13 12,iq 14 (.lenL (.s 13)),iq 15 (.bin .gtr (.s 14) (.c (.int .i64 12))),im 16 15,ig 17 16 false (.faddr 5 (.s 1)),ig 18 16 false (.load1 (.s 17)),ig 19 16 false (.lenL (.s 18)),ig 20 16 false (.bin .gtr (.s 19) (.c (.int .i64 12))),iq 21 (.pick (.s 16) (.c (.bool true)) (.s 20))])
 (.cond (.s 21)
 (.seq
 (.reg [ik 2 3])
 .ret)
 .skip))
 (.seqj [1]
 (.seq
 (.reg [ik 3 0])
 (.block 0
 (.loop [1,3]
 (.seqj [1,3]
 (.seq
 (.reg [im 22 3,ia 23 4 1,il 24 23,iq 25 (.lenL (.s 24)),iq 26 (.bin .lss (.s 22) (.s 25))])
 (.cond (.s 26)
 .skip
 (.exit 0)))
 (.seqj [1,3]
 (.block 1
 (.seqj [1,3]
 (.seq
 (.reg [ia 29 4 1,il 30 29,im 31 3,iq 32 (.iaddrS 5 (.s 30) (.s 31)),ia 33 0 32,il 34 33,iq 35 (.call 39 [.s 34]),iq 36 (.not (.s 35)),im 37 36,ig 38 37 false (.faddr 4 (.s 1)),ig 39 37 false (.load1 (.s 38)),ig 40 37 false (.mv (.s 3)),ig 41 37 false (.iaddrS 5 (.s 39) (.s 40)),ig 42 37 false (.faddr 0 (.s 41)),ig 43 37 false (.load1 (.s 42)),ig 44 37 false (.call 40 [.s 43]),iq 45 (.pick (.s 37) (.c (.bool true)) (.s 44))])
 (.cond (.s 45)
 (.seq
 (.reg [ik 2 15])
 .ret)
 .skip))
 (.seq
 (.drw [im 46 3,iq 47 (.bin .gtr (.s 46) (.c (.int .i64 0))),im 48 47,ig 49 48 true (.faddr 4 (.s 1)),ig 50 48 true (.load1 (.s 49)),ig 51 48 true (.mv (.s 3)),ig 52 48 true (.iaddrS 5 (.s 50) (.s 51)),ig 53 48 true (.faddr 0 (.s 52)),ig 54 48 true (.load1 (.s 53)),ig 55 48 true (.faddr 4 (.s 1)),ig 56 48 true (.load1 (.s 55)),ig 57 48 true (.mv (.s 3)),ig 58 48 true (.bin .sub (.s 57) (.c (.int .i64 1))),ig 59 48 true (.iaddrS 5 (.s 56) (.s 58)),ig 60 48 true (.faddr 0 (.s 59)),ig 61 48 true (.load1 (.s 60)),ig 62 48 true (.bin .leq (.s 54) (.s 61)),iq 63 (.pick (.s 48) (.s 62) (.c (.bool false)))] [])
 (.cond (.s 63)
 (.seq
 (.reg [ik 2 6])
 .ret)
 .skip))))
 (.reg [im 27 3,iq 28 (.bin .add (.s 27) (.c (.int .i64 1))),im 3 28]))))))
 (.seq
 (.reg [iq 64 (.loadn 6 (.s 1)),iq 65 (.build [(.int .i64 0),(ofL []), .snil, .snil, .snil, .snil,(.int .i64 0)] [(0,6,(.s 64))]),iq 66 (.box (.s 65)),im 4 66])
 (.seq
 (.reg [ik 5 0])
 (.seqj [1,4,5]
 (.seq
 (.reg [ik 6 0])
 (.block 2
 (.loop [1,4,5,6]
 (.seqj [1,4,6]
 (.seq
 (.reg [im 67 6,ia 68 4 1,il 69 68,iq 70 (.lenL (.s 69)),iq 71 (.bin .lss (.s 67) (.s 70)),im 72 71,ig 73 72 true (.mv (.s 5)),ig 74 72 true (.eq (.one .i) false (.s 73) (.c (.int .i64 0))),iq 75 (.pick (.s 72) (.s 74) (.c (.bool false)))])
 (.cond (.s 75)
 .skip
 (.exit 2)))
 (.seqj [1,4,5,6]
 (.block 3
 (.reg [im 78 4,ia 79 4 1,il 80 79,im 81 6,iq 82 (.iaddrS 5 (.s 80) (.s 81)),ia 83 1 82,iq 84 (.loadn 4 (.s 83)),iq 85 (.call 41 [.s 78, .s 84,(.c (.int .i64 1))]),im 5 85]))
 (.reg [im 76 6,iq 77 (.bin .add (.s 76) (.c (.int .i64 1))),im 6 77]))))))
 (.seqj [1,4,5]
 (.seq
 (.reg [im 86 5,iq 87 (.eq (.one .i) false (.s 86) (.c (.int .i64 0)))])
 (.cond (.s 87)
 (.reg [im 88 4,ia 89 0 1,iq 90 (.loadn 4 (.s 89)),iq 91 (.call 41 [.s 88, .s 90,(.c (.int .i64 1))]),im 5 91])
 .skip))
 (.seqj [1,4,5]
 (.seq
 (.reg [im 92 5,iq 93 (.eq (.one .i) true (.s 92) (.c (.int .i64 0)))])
 (.cond (.s 93)
 (.seq
 (.reg [im 94 5,im 2 94])
 .ret)
 .skip))
 (.seqj [1]
 (.seq
 (.reg [ik 7 0])
 (.block 4
 (.loop [1,4,5,7]
 (.seqj [1,4,5,7]
 (.seq
 (.reg [im 95 7,ia 96 5 1,il 97 96,iq 98 (.lenL (.s 97)),iq 99 (.bin .lss (.s 95) (.s 98))])
 (.cond (.s 99)
 .skip
 (.exit 4)))
 (.seqj [1,4,5,7]
 (.block 5
 (.seq
 (.reg [ia 102 5 1,il 103 102,im 104 7,iq 105 (.iaddrS 6 (.s 103) (.s 104)),iq 106 (.loadn 6 (.s 105)),iq 8 (.alloc [(ofL []), .snil,(.int .i64 0),(ofL []), .snil, .snil]),iz (.store 6 (.s 8) (.s 106))])
 (.seqj [1,4,5,7,8]
 (.seq
 (.reg [ia 107 0 8,il 108 107,iq 109 (.call 39 [.s 108]),iq 110 (.not (.s 109)),im 111 110,ig 112 111 false (.faddr 0 (.s 8)),ig 113 111 false (.load1 (.s 112)),ig 114 111 false (.call 42 [.s 113]),iq 115 (.pick (.s 111) (.c (.bool true)) (.s 114))])
 (.cond (.s 115)
 (.seq
 (.reg [ik 2 15])
 .ret)
 .skip))
 (.seqj [1,4,5,7,8]
 (.seq
 (.drw [im 116 7,iq 117 (.bin .gtr (.s 116) (.c (.int .i64 0))),im 118 117,ig 119 118 true (.faddr 0 (.s 8)),ig 120 118 true (.load1 (.s 119)),ig 121 118 true (.faddr 5 (.s 1)),ig 122 118 true (.load1 (.s 121)),ig 123 118 true (.mv (.s 7)),ig 124 118 true (.bin .sub (.s 123) (.c (.int .i64 1))),ig 125 118 true (.iaddrS 6 (.s 122) (.s 124)),ig 126 118 true (.faddr 0 (.s 125)),ig 127 118 true (.load1 (.s 126)),ig 128 118 true (.bin .leq (.s 120) (.s 127)),iq 129 (.pick (.s 118) (.s 128) (.c (.bool false)))] [])
 (.cond (.s 129)
 (.seq
 (.reg [ik 2 6])
 .ret)
 .skip))
 (.seqj [1,4,5,7,8]
 (.seq
 (.reg [ia 130 1 8,il 131 130,iq 132 (.lenL (.s 131)),iq 133 (.bin .gtr (.s 132) (.c (.int .i64 4)))])
 (.cond (.s 133)
 (.seq
 (.reg [ik 2 18])
 .ret)
 .skip))
 (.seqj [1,4,5,7,8]
 (.seq
 (.reg [ik 9 0])
 (.block 6
 (.loop [1,4,5,7,8,9]
 (.seqj [1,4,7,8,9]
 (.seq
 (.reg [im 134 9,ia 135 1 8,il 136 135,iq 137 (.lenL (.s 136)),iq 138 (.bin .lss (.s 134) (.s 137)),im 139 138,ig 140 139 true (.mv (.s 5)),ig 141 139 true (.eq (.one .i) false (.s 140) (.c (.int .i64 0))),iq 142 (.pick (.s 139) (.s 141) (.c (.bool false)))])
 (.cond (.s 142)
 .skip
 (.exit 6)))
 (.seqj [1,4,5,7,8,9]
 (.block 7
 (.reg [im 145 4,ia 146 1 8,il 147 146,im 148 9,iq 149 (.iaddrS 4 (.s 147) (.s 148)),iq 150 (.loadn 4 (.s 149)),iq 151 (.call 41 [.s 145, .s 150,(.c (.int .i64 1))]),im 5 151]))
 (.reg [im 143 9,iq 144 (.bin .add (.s 143) (.c (.int .i64 1))),im 9 144]))))))
 (.seqj [1,4,5,7]
 (.seq
 (.reg [im 152 5,iq 153 (.eq (.one .i) false (.s 152) (.c (.int .i64 0)))])
 (.cond (.s 153)
 (.reg [im 154 4,ia 155 2 8,iq 156 (.loadn 4 (.s 155)),iq 157 (.call 41 [.s 154, .s 156,(.c (.int .i64 1))]),im 5 157])
 .skip))
 (.seq
 (.reg [im 158 5,iq 159 (.eq (.one .i) true (.s 158) (.c (.int .i64 0)))])
 (.cond (.s 159)
 (.seq
 (.reg [im 160 5,im 2 160])
 .ret)
 .skip)))))))))
 (.reg [im 100 7,iq 101 (.bin .add (.s 100) (.c (.int .i64 1))),im 7 101]))))))
 (.seqj [1]
 (.seq
 (.drw [iq 161 (.loadn 6 (.s 1)),iq 162 (.call 43 [.s 161]),iq 163 (.lenL (.s 162)),ia 164 4 1,il 165 164,iq 166 (.lenL (.s 165)),iq 167 (.eq (.one .i) true (.s 163) (.s 166))] [])
 (.cond (.s 167)
 (.seq
 (.reg [ik 2 14])
 .ret)
 .skip))
 (.seq
 (.reg [iq 168 (.loadn 6 (.s 1)),iq 169 (.call 44 [.s 168]),im 10 169])
 (.seqj []
 (.seq
 (.reg [ik 11 0])
 (.block 8
 (.loop [1,10,11]
 (.seqj [1,10,11]
 (.seq
 (.reg [im 170 11,im 171 10,iq 172 (.lenL (.s 171)),iq 173 (.bin .lss (.s 170) (.s 172))])
 (.cond (.s 173)
 .skip
 (.exit 8)))
 (.seqj [1,10,11]
 (.block 9
 (.seq
 (.drw [iq 176 (.loadn 6 (.s 1)),im 177 10,im 178 11,iq 179 (.iaddrS 4 (.s 177) (.s 178)),iq 180 (.loadn 4 (.s 179)),⟨(some 181),(.call 45 [.s 176, .s 180]),none,(some [])⟩] [])
 (.cond (.s 181)
 (.seq
 (.reg [ik 2 17])
 .ret)
 .skip)))
 (.reg [im 174 11,iq 175 (.bin .add (.s 174) (.c (.int .i64 1))),im 11 175]))))))
 (.seq
 (.reg [ik 2 0])
 .ret)))))))))))))}
theorem Job :compFn Try.prog Try.f20 [[1],[1],[1,3],[1,3],[1,3],[1,3],[1,4,5],[1,4,5,6],[1,4,6],[1,4,5,6],[1,4,5],[1,4,5],[1],[1,4,5,7],[1,4,5,7],[1,4,5,7],[1,4,5,7,8],[1,4,5,7,8],[1,4,5,7,8],[1,4,5,7,8],[1,4,5,7,8,9],[1,4,7,8,9],[1,4,5,7,8,9],[1,4,5,7],[1],[],[1,10,11],[1,10,11],[1,10,11]]=some KP:=by kernel_rfl
def JW :Eva.Fn:={ntmps:=36,res:=[.s 2],body:=
 (.seq
 (.reg [iq 2 (.mv (.c (.bool false)))])
 (.seqj [0]
 (.seq
 (.reg [im 4 0,iq 5 (.lenS (.s 4)),iq 6 (.eq (.one .i) false (.s 5) (.c (.int .i64 0))),im 7 6,ig 8 7 false (.mv (.s 0)),ig 9 7 false (.lenS (.s 8)),ig 10 7 false (.bin .gtr (.s 9) (.c (.int .i64 16))),iq 11 (.pick (.s 7) (.c (.bool true)) (.s 10)),im 12 11,ig 13 12 false (.mv (.s 0)),ig 14 12 false (.idxS (.s 13) (.c (.int .i64 0))),ig 15 12 false (.call 65 [.s 14]),ig 16 12 false (.not (.s 15)),iq 17 (.pick (.s 12) (.c (.bool true)) (.s 16))])
 (.cond (.s 17)
 (.seq
 (.reg [iq 2 (.mv (.c (.bool false)))])
 .ret)
 .skip))
 (.seqj []
 (.seq
 (.reg [ik 3 0])
 (.block 0
 (.loop [0,3]
 (.seqj [0,3]
 (.seq
 (.reg [im 18 3,im 19 0,iq 20 (.lenS (.s 19)),iq 21 (.bin .lss (.s 18) (.s 20))])
 (.cond (.s 21)
 .skip
 (.exit 0)))
 (.seqj [0,3]
 (.block 1
 (.seq
 (.reg [im 24 0,im 25 3,iq 26 (.idxS (.s 24) (.s 25)),iq 27 (.call 65 [.s 26]),iq 28 (.not (.s 27)),im 29 28,ig 30 29 true (.mv (.s 0)),ig 31 29 true (.mv (.s 3)),ig 32 29 true (.idxS (.s 30) (.s 31)),ig 33 29 true (.call 66 [.s 32]),ig 34 29 true (.not (.s 33)),iq 35 (.pick (.s 29) (.s 34) (.c (.bool false)))])
 (.cond (.s 35)
 (.seq
 (.reg [iq 2 (.mv (.c (.bool false)))])
 .ret)
 .skip)))
 (.reg [im 22 3,iq 23 (.bin .add (.s 22) (.c (.int .i64 1))),im 3 23]))))))
 (.seq
 (.reg [iq 2 (.mv (.c (.bool true)))])
 .ret))))}
theorem Joc :compFn Try.prog Try.f39 [[0],[],[0,3],[0,3],[0,3]]=some JW:=by kernel_rfl
def JF :Eva.Fn:={ntmps:=21,res:=[.s 2],body:=
 (.seq
 (.reg [iq 2 (.mv (.c (.bool false)))])
 (.seq
 (.reg [im 3 0,iq 4 (.bin .geq (.s 3) (.c (.int .u8 97))),im 5 4,ig 6 5 true (.mv (.s 0)),ig 7 5 true (.bin .leq (.s 6) (.c (.int .u8 122))),iq 8 (.pick (.s 5) (.s 7) (.c (.bool false))),im 9 8,ig 10 9 false (.mv (.s 0)),ig 11 9 false (.bin .geq (.s 10) (.c (.int .u8 65))),ig 12 9 false (.mv (.s 11)),ig 13 12 true (.mv (.s 0)),ig 14 12 true (.bin .leq (.s 13) (.c (.int .u8 90))),ig 15 9 false (.pick (.s 12) (.s 14) (.c (.bool false))),iq 16 (.pick (.s 9) (.c (.bool true)) (.s 15)),im 17 16,ig 18 17 false (.mv (.s 0)),ig 19 17 false (.eq (.one .i) false (.s 18) (.c (.int .u8 95))),iq 20 (.pick (.s 17) (.c (.bool true)) (.s 19)),im 2 20])
 .ret))}
theorem Jod :compFn Try.prog Try.f65 []=some JF:=by kernel_rfl
def JX :Eva.Fn:={ntmps:=9,res:=[.s 2],body:=
 (.seq
 (.reg [iq 2 (.mv (.c (.bool false)))])
 (.seq
 (.reg [im 3 0,iq 4 (.bin .geq (.s 3) (.c (.int .u8 48))),im 5 4,ig 6 5 true (.mv (.s 0)),ig 7 5 true (.bin .leq (.s 6) (.c (.int .u8 57))),iq 8 (.pick (.s 5) (.s 7) (.c (.bool false))),im 2 8])
 .ret))}
theorem Joe :compFn Try.prog Try.f66 []=some JX:=by kernel_rfl
def JC :Eva.Fn:={ntmps:=29,res:=[.s 2],body:=
 (.seq
 (.reg [iq 2 (.mv (.c (.bool false)))])
 (.seq
 (.reg [im 3 0,iq 4 (.eq (.one .s) false (.s 3) (.c (ofL [66,111,111,108]))),im 5 4,ig 6 5 false (.mv (.s 0)),ig 7 5 false (.eq (.one .s) false (.s 6) (.c (ofL [73,110,116]))),iq 8 (.pick (.s 5) (.c (.bool true)) (.s 7)),im 9 8,ig 10 9 false (.mv (.s 0)),ig 11 9 false (.eq (.one .s) false (.s 10) (.c (ofL [84,101,120,116]))),iq 12 (.pick (.s 9) (.c (.bool true)) (.s 11)),im 13 12,ig 14 13 false (.mv (.s 0)),ig 15 13 false (.eq (.one .s) false (.s 14) (.c (ofL [76,105,115,116]))),iq 16 (.pick (.s 13) (.c (.bool true)) (.s 15)),im 17 16,ig 18 17 false (.mv (.s 0)),ig 19 17 false (.eq (.one .s) false (.s 18) (.c (ofL [77,97,112]))),iq 20 (.pick (.s 17) (.c (.bool true)) (.s 19)),im 21 20,ig 22 21 false (.mv (.s 0)),ig 23 21 false (.eq (.one .s) false (.s 22) (.c (ofL [79,112,116]))),iq 24 (.pick (.s 21) (.c (.bool true)) (.s 23)),im 25 24,ig 26 25 false (.mv (.s 0)),ig 27 25 false (.eq (.one .s) false (.s 26) (.c (ofL [85,110,105,111,110]))),iq 28 (.pick (.s 25) (.c (.bool true)) (.s 27)),im 2 28])
 .ret))}
theorem Jof :compFn Try.prog Try.f40 []=some JC:=by kernel_rfl
def Kj :Eva.Fn:={ntmps:=50,res:=[.s 6],body:=
 (.seq
 (.reg [iq 4 (.box (.s 1)),ik 6 0])
 (.seq
 (.reg [im 9 0,iq 10 (.nilck (.s 9)),ia 11 6 10,il 12 11,iq 13 (.bin .add (.s 12) (.c (.int .i64 1))),iq 14 (.nilck (.s 9)),ia 15 6 14,iz (.store 1 (.s 15) (.s 13))])
 (.seqj [0,2,4]
 (.seq
 (.reg [im 16 0,iq 17 (.nilck (.s 16)),ia 18 6 17,il 19 18,iq 20 (.bin .gtr (.s 19) (.c (.int .i64 400)))])
 (.cond (.s 20)
 (.seq
 (.reg [ik 6 3])
 .ret)
 .skip))
 (.seqj [0,2,4]
 (.seq
 (.reg [im 21 2,iq 22 (.bin .gtr (.s 21) (.c (.int .i64 12)))])
 (.cond (.s 22)
 (.seq
 (.reg [ik 6 13])
 .ret)
 .skip))
 (.seq
 (.drw [im 23 0,iq 24 (.nilck (.s 23)),ia 25 0 24,iq 26 (.loadn 6 (.s 25)),iq 27 (.loadn 4 (.s 4)),⟨(some 28),(.call 67 [.s 26, .s 27]),none,(some [])⟩,im 7 28] [])
 (.seqj [7]
 (.seq
 (.reg [ik 8 0])
 (.block 0
 (.loop [0,2,4,7,8]
 (.seqj [0,2,4,8]
 (.seq
 (.reg [im 29 8,ia 30 3 4,il 31 30,iq 32 (.lenL (.s 31)),iq 33 (.bin .lss (.s 29) (.s 32)),im 34 33,ig 35 34 true (.mv (.s 7)),ig 36 34 true (.eq (.one .i) false (.s 35) (.c (.int .i64 0))),iq 37 (.pick (.s 34) (.s 36) (.c (.bool false)))])
 (.cond (.s 37)
 .skip
 (.exit 0)))
 (.seqj [0,2,4,7,8]
 (.block 1
 (.reg [im 40 0,ia 41 3 4,il 42 41,im 43 8,iq 44 (.iaddrS 4 (.s 42) (.s 43)),iq 45 (.loadn 4 (.s 44)),im 46 2,iq 47 (.bin .add (.s 46) (.c (.int .i64 1))),iq 48 (.call 41 [.s 40, .s 45, .s 47]),im 7 48]))
 (.reg [im 38 8,iq 39 (.bin .add (.s 38) (.c (.int .i64 1))),im 8 39]))))))
 (.seq
 (.reg [im 49 7,im 6 49])
 .ret)))))))}
theorem Jog :compFn Try.prog Try.f41 [[0,2,4],[0,2,4],[7],[0,2,4,7,8],[0,2,4,8],[0,2,4,7,8]]=some Kj:=by kernel_rfl
def Qt :Eva.Fn:={ntmps:=118,res:=[.s 4],body:=
 (.seq
 (.reg [iq 2 (.box (.s 0)),iq 3 (.box (.s 1)),ik 4 0])
 (.seqj [2,3]
 (.seq
 (.reg [ia 10 0 3,il 11 10,iq 12 (.bin .lss (.s 11) (.c (.int .i64 1))),im 13 12,ig 14 13 false (.faddr 0 (.s 3)),ig 15 13 false (.load1 (.s 14)),ig 16 13 false (.bin .gtr (.s 15) (.c (.int .i64 9))),iq 17 (.pick (.s 13) (.c (.bool true)) (.s 16))])
 (.cond (.s 17)
 (.seq
 (.reg [ik 4 1])
 .ret)
 .skip))
 (.seq
 (.reg [ik 5 0])
 (.seqj [2,3,5]
 (.seq
 (.reg [ia 18 0 3,il 19 18])
 (.block 0
 (.seqj [2,3,5,19,20]
 (.seq
 (.reg [iq 21 (.eq (.one .i) false (.s 19) (.c (.int .i64 4))),im 20 21])
 (.cond (.s 20)
 .skip
 (.seq
 (.reg [iq 22 (.eq (.one .i) false (.s 19) (.c (.int .i64 5))),im 20 22])
 (.cond (.s 20)
 .skip
 (.reg [iq 23 (.eq (.one .i) false (.s 19) (.c (.int .i64 6))),im 20 23])))))
 (.cond (.s 20)
 (.reg [ik 5 1])
 (.seqj [2,3,5,24]
 (.seq
 (.reg [iq 25 (.eq (.one .i) false (.s 19) (.c (.int .i64 7))),im 24 25])
 (.cond (.s 24)
 .skip
 (.reg [iq 26 (.eq (.one .i) false (.s 19) (.c (.int .i64 8))),im 24 26])))
 (.cond (.s 24)
 (.reg [ia 27 2 3,il 28 27,iq 29 (.lenL (.s 28)),im 5 29])
 .skip))))))
 (.seq
 (.reg [ia 30 0 3,il 31 30,iq 32 (.eq (.one .i) false (.s 31) (.c (.int .i64 7))),im 33 32,ig 34 33 false (.faddr 0 (.s 3)),ig 35 33 false (.load1 (.s 34)),ig 36 33 false (.eq (.one .i) false (.s 35) (.c (.int .i64 8))),iq 37 (.pick (.s 33) (.c (.bool true)) (.s 36)),im 6 37])
 (.seqj [2,3]
 (.seq
 (.reg [ia 38 3 3,il 39 38,iq 40 (.lenL (.s 39)),im 41 5,iq 42 (.eq (.one .i) true (.s 40) (.s 41)),im 43 42,ig 44 43 false (.faddr 0 (.s 3)),ig 45 43 false (.load1 (.s 44)),ig 46 43 false (.eq (.one .i) true (.s 45) (.c (.int .i64 9))),ig 47 43 false (.mv (.s 46)),ig 48 47 true (.faddr 1 (.s 3)),ig 49 47 true (.load1 (.s 48)),ig 50 47 true (.eq (.one .s) true (.s 49) (.c (ofL []))),ig 51 43 false (.pick (.s 47) (.s 50) (.c (.bool false))),iq 52 (.pick (.s 43) (.c (.bool true)) (.s 51)),im 53 52,ig 54 53 false (.mv (.s 6)),ig 55 53 false (.not (.s 54)),ig 56 53 false (.mv (.s 55)),ig 57 56 true (.faddr 2 (.s 3)),ig 58 56 true (.load1 (.s 57)),ig 59 56 true (.lenL (.s 58)),ig 60 56 true (.eq (.one .i) true (.s 59) (.c (.int .i64 0))),ig 61 53 false (.pick (.s 56) (.s 60) (.c (.bool false))),iq 62 (.pick (.s 53) (.c (.bool true)) (.s 61))])
 (.cond (.s 62)
 (.seq
 (.reg [ik 4 12])
 .ret)
 .skip))
 (.seqj [3]
 (.seq
 (.reg [ia 63 0 3,il 64 63,iq 65 (.eq (.one .i) false (.s 64) (.c (.int .i64 9)))])
 (.cond (.s 65)
 (.seq
 (.reg [iq 67 (.loadn 6 (.s 2)),ia 68 1 3,il 69 68,iq 70 (.call 79 [.s 67, .s 69]),im 66 70,ie 71 0 66,ie 72 1 66,iq 7 (.alloc [(.int .i64 0),(ofL []), .snil, .snil]),iz (.store 4 (.s 7) (.s 71)),im 8 72])
 (.seq
 (.reg [im 73 8,iq 74 (.not (.s 73))])
 (.cond (.s 74)
 (.seq
 (.reg [ik 4 15])
 .ret)
 .skip)))
 .skip))
 (.seqj [3]
 (.seq
 (.reg [ia 75 2 3,il 76 75,iq 77 (.lenL (.s 76)),iq 78 (.bin .gtr (.s 77) (.c (.int .i64 8)))])
 (.cond (.s 78)
 (.seq
 (.reg [ik 4 3])
 .ret)
 .skip))
 (.seqj [3]
 (.seq
 (.reg [ik 9 0])
 (.block 1
 (.loop [3,9]
 (.seqj [3,9]
 (.seq
 (.reg [im 79 9,ia 80 2 3,il 81 80,iq 82 (.lenL (.s 81)),iq 83 (.bin .lss (.s 79) (.s 82))])
 (.cond (.s 83)
 .skip
 (.exit 1)))
 (.seqj [3,9]
 (.block 2
 (.seqj [3,9]
 (.seq
 (.reg [ia 86 2 3,il 87 86,im 88 9,iq 89 (.iaddrS 1 (.s 87) (.s 88)),il 90 89,iq 91 (.call 39 [.s 90]),iq 92 (.not (.s 91))])
 (.cond (.s 92)
 (.seq
 (.reg [ik 4 15])
 .ret)
 .skip))
 (.seq
 (.drw [im 93 9,iq 94 (.bin .gtr (.s 93) (.c (.int .i64 0))),im 95 94,ig 96 95 true (.faddr 2 (.s 3)),ig 97 95 true (.load1 (.s 96)),ig 98 95 true (.mv (.s 9)),ig 99 95 true (.iaddrS 1 (.s 97) (.s 98)),ig 100 95 true (.load1 (.s 99)),ig 101 95 true (.faddr 2 (.s 3)),ig 102 95 true (.load1 (.s 101)),ig 103 95 true (.mv (.s 9)),ig 104 95 true (.bin .sub (.s 103) (.c (.int .i64 1))),ig 105 95 true (.iaddrS 1 (.s 102) (.s 104)),ig 106 95 true (.load1 (.s 105)),ig 107 95 true (.bin .leq (.s 100) (.s 106)),iq 108 (.pick (.s 95) (.s 107) (.c (.bool false)))] [])
 (.cond (.s 108)
 (.seq
 (.reg [ik 4 6])
 .ret)
 .skip))))
 (.reg [im 84 9,iq 85 (.bin .add (.s 84) (.c (.int .i64 1))),im 9 85]))))))
 (.seqj []
 (.seq
 (.reg [ia 109 0 3,il 110 109,iq 111 (.eq (.one .i) false (.s 110) (.c (.int .i64 8))),im 112 111,ig 113 112 true (.faddr 2 (.s 3)),ig 114 112 true (.load1 (.s 113)),ig 115 112 true (.lenL (.s 114)),ig 116 112 true (.eq (.one .i) false (.s 115) (.c (.int .i64 0))),iq 117 (.pick (.s 112) (.s 116) (.c (.bool false)))])
 (.cond (.s 117)
 (.seq
 (.reg [ik 4 12])
 .ret)
 .skip))
 (.seq
 (.reg [ik 4 0])
 .ret)))))))))))}
theorem Joh :compFn Try.prog Try.f67 [[2,3],[2,3,5],[2,3,5,19,20],[2,3,5,24],[2,3],[3],[3],[3],[3,9],[3,9],[3,9],[3,9],[]]=some Qt:=by kernel_rfl
def Qu :Eva.Fn:={ntmps:=29,res:=[(.cn 4 4), .s 5],body:=
 (.seq
 (.reg [iq 2 (.box (.s 0)),iq 4 (.alloc [(.int .i64 0),(ofL []), .snil, .snil]),iq 5 (.mv (.c (.bool false)))])
 (.seqj [4]
 (.seq
 (.reg [ik 6 0])
 (.block 0
 (.loop [1,2,4,6]
 (.seqj [1,2,4,6]
 (.seq
 (.reg [im 7 6,ia 8 4 2,il 9 8,iq 10 (.lenL (.s 9)),iq 11 (.bin .lss (.s 7) (.s 10))])
 (.cond (.s 11)
 .skip
 (.exit 0)))
 (.seqj [1,2,4,6]
 (.block 1
 (.seq
 (.reg [ia 14 4 2,il 15 14,im 16 6,iq 17 (.iaddrS 5 (.s 15) (.s 16)),ia 18 0 17,il 19 18,im 20 1,iq 21 (.eq (.one .s) false (.s 19) (.s 20))])
 (.cond (.s 21)
 (.seq
 (.reg [ia 22 4 2,il 23 22,im 24 6,iq 25 (.iaddrS 5 (.s 23) (.s 24)),ia 26 1 25,iq 27 (.loadn 4 (.s 26)),iz (.store 4 (.s 4) (.s 27)),iq 5 (.mv (.c (.bool true)))])
 .ret)
 .skip)))
 (.reg [im 12 6,iq 13 (.bin .add (.s 12) (.c (.int .i64 1))),im 6 13]))))))
 (.seq
 (.reg [iq 28 (.build [(.int .i64 0),(ofL []), .snil, .snil] []),iz (.store 4 (.s 4) (.s 28)),iq 5 (.mv (.c (.bool false)))])
 .ret)))}
theorem Joi :compFn Try.prog Try.f79 [[4],[1,2,4,6],[1,2,4,6],[1,2,4,6]]=some Qu:=by kernel_rfl
def Jj :Eva.Fn:={ntmps:=28,res:=[.s 2],body:=
 (.seq
 (.reg [iq 2 (.mv (.c (.bool false)))])
 (.seqj []
 (.seq
 (.reg [im 3 0])
 (.block 0
 (.seqj [4]
 (.seq
 (.reg [iq 5 (.eq (.one .s) false (.s 3) (.c (ofL [108,101,110]))),im 4 5])
 (.cond (.s 4)
 .skip
 (.seq
 (.reg [iq 6 (.eq (.one .s) false (.s 3) (.c (ofL [110,111,116]))),im 4 6])
 (.cond (.s 4)
 .skip
 (.seq
 (.reg [iq 7 (.eq (.one .s) false (.s 3) (.c (ofL [97,110,100]))),im 4 7])
 (.cond (.s 4)
 .skip
 (.seq
 (.reg [iq 8 (.eq (.one .s) false (.s 3) (.c (ofL [111,114]))),im 4 8])
 (.cond (.s 4)
 .skip
 (.seq
 (.reg [iq 9 (.eq (.one .s) false (.s 3) (.c (ofL [101,113]))),im 4 9])
 (.cond (.s 4)
 .skip
 (.seq
 (.reg [iq 10 (.eq (.one .s) false (.s 3) (.c (ofL [108,116]))),im 4 10])
 (.cond (.s 4)
 .skip
 (.seq
 (.reg [iq 11 (.eq (.one .s) false (.s 3) (.c (ofL [97,100,100]))),im 4 11])
 (.cond (.s 4)
 .skip
 (.seq
 (.reg [iq 12 (.eq (.one .s) false (.s 3) (.c (ofL [115,117,98]))),im 4 12])
 (.cond (.s 4)
 .skip
 (.seq
 (.reg [iq 13 (.eq (.one .s) false (.s 3) (.c (ofL [109,117,108]))),im 4 13])
 (.cond (.s 4)
 .skip
 (.seq
 (.reg [iq 14 (.eq (.one .s) false (.s 3) (.c (ofL [115,104,108]))),im 4 14])
 (.cond (.s 4)
 .skip
 (.seq
 (.reg [iq 15 (.eq (.one .s) false (.s 3) (.c (ofL [115,104,114]))),im 4 15])
 (.cond (.s 4)
 .skip
 (.seq
 (.reg [iq 16 (.eq (.one .s) false (.s 3) (.c (ofL [105,56]))),im 4 16])
 (.cond (.s 4)
 .skip
 (.seq
 (.reg [iq 17 (.eq (.one .s) false (.s 3) (.c (ofL [105,49,54]))),im 4 17])
 (.cond (.s 4)
 .skip
 (.seq
 (.reg [iq 18 (.eq (.one .s) false (.s 3) (.c (ofL [105,51,50]))),im 4 18])
 (.cond (.s 4)
 .skip
 (.seq
 (.reg [iq 19 (.eq (.one .s) false (.s 3) (.c (ofL [117,56]))),im 4 19])
 (.cond (.s 4)
 .skip
 (.seq
 (.reg [iq 20 (.eq (.one .s) false (.s 3) (.c (ofL [117,49,54]))),im 4 20])
 (.cond (.s 4)
 .skip
 (.seq
 (.reg [iq 21 (.eq (.one .s) false (.s 3) (.c (ofL [117,51,50]))),im 4 21])
 (.cond (.s 4)
 .skip
 (.seq
 (.reg [iq 22 (.eq (.one .s) false (.s 3) (.c (ofL [99,97,116]))),im 4 22])
 (.cond (.s 4)
 .skip
 (.seq
 (.reg [iq 23 (.eq (.one .s) false (.s 3) (.c (ofL [116,101,120,116]))),im 4 23])
 (.cond (.s 4)
 .skip
 (.seq
 (.reg [iq 24 (.eq (.one .s) false (.s 3) (.c (ofL [97,116]))),im 4 24])
 (.cond (.s 4)
 .skip
 (.seq
 (.reg [iq 25 (.eq (.one .s) false (.s 3) (.c (ofL [103,101,116]))),im 4 25])
 (.cond (.s 4)
 .skip
 (.seq
 (.reg [iq 26 (.eq (.one .s) false (.s 3) (.c (ofL [104,97,115]))),im 4 26])
 (.cond (.s 4)
 .skip
 (.reg [iq 27 (.eq (.one .s) false (.s 3) (.c (ofL [111,114,101,108,115,101]))),im 4 27])))))))))))))))))))))))))))))))))))))))))))))
 (.cond (.s 4)
 (.seq
 (.reg [iq 2 (.mv (.c (.bool true)))])
 .ret)
 .skip))))
 (.seq
 (.reg [iq 2 (.mv (.c (.bool false)))])
 .ret)))}
theorem Joj :compFn Try.prog Try.f42 [[],[4]]=some Jj:=by kernel_rfl
def KE :Eva.Fn:={ntmps:=40,res:=[.s 2],body:=
 (.seq
 (.reg [iq 1 (.box (.s 0)),iq 2 (.mv (.c .snil))])
 (.seq
 (.reg [iq 3 (.mv (.c .snil))])
 (.seqj [3]
 (.seq
 (.reg [ik 4 0])
 (.block 0
 (.loop [1,3,4]
 (.seqj [1,3,4]
 (.seq
 (.reg [im 7 4,ia 8 4 1,il 9 8,iq 10 (.lenL (.s 9)),iq 11 (.bin .leq (.s 7) (.s 10))])
 (.cond (.s 11)
 .skip
 (.exit 0)))
 (.seqj [1,3,4]
 (.block 1
 (.seq
 (.reg [iq 5 (.mv (.c .snil))])
 (.seqj [1,4,5]
 (.seq
 (.reg [ik 6 0])
 (.block 2
 (.loop [1,3,4,5,6]
 (.seqj [1,3,4,5,6]
 (.seq
 (.reg [im 14 6,ia 15 4 1,il 16 15,iq 17 (.lenL (.s 16)),iq 18 (.bin .lss (.s 14) (.s 17))])
 (.cond (.s 18)
 .skip
 (.exit 2)))
 (.seqj [1,3,4,5,6]
 (.block 3
 (.seq
 (.reg [im 21 3,ia 22 4 1,il 23 22,im 24 6,iq 25 (.iaddrS 5 (.s 23) (.s 24)),ia 26 1 25,iq 27 (.loadn 4 (.s 26)),iq 28 (.call 68 [.s 21, .s 27])])
 (.cond (.s 28)
 (.reg [im 29 5,ia 30 4 1,il 31 30,im 32 6,iq 33 (.iaddrS 5 (.s 31) (.s 32)),ia 34 0 33,il 35 34,iq 36 (.bsl 1 1 [(ofL [])] [(0,1,(.s 35))]),iq 37 (.app 1 (.s 29) (.s 36)),im 5 37])
 .skip)))
 (.reg [im 19 6,iq 20 (.bin .add (.s 19) (.c (.int .i64 1))),im 6 20]))))))
 (.reg [im 38 5,im 3 38]))))
 (.reg [im 12 4,iq 13 (.bin .add (.s 12) (.c (.int .i64 1))),im 4 13]))))))
 (.seq
 (.reg [im 39 3,im 2 39])
 .ret))))}
theorem Jok :compFn Try.prog Try.f43 [[3],[1,3,4],[1,3,4],[1,3,4],[1,4,5],[1,3,4,5,6],[1,3,4,5,6],[1,3,4,5,6]]=some KE:=by kernel_rfl
def Qc :Eva.Fn:={ntmps:=48,res:=[.s 4],body:=
 (.seq
 (.reg [iq 3 (.box (.s 1)),iq 4 (.mv (.c (.bool false)))])
 (.seqj []
 (.seq
 (.reg [ia 7 0 3,il 8 7])
 (.block 0
 (.seq
 (.reg [iq 10 (.eq (.one .i) false (.s 8) (.c (.int .i64 7))),im 9 10])
 (.cond (.s 9)
 (.seqj []
 (.seq
 (.reg [ik 5 0])
 (.block 1
 (.loop [0,3,5]
 (.seqj [0,3,5]
 (.seq
 (.reg [im 11 5,ia 12 3 3,il 13 12,iq 14 (.lenL (.s 13)),iq 15 (.bin .lss (.s 11) (.s 14))])
 (.cond (.s 15)
 .skip
 (.exit 1)))
 (.seqj [0,3,5]
 (.block 2
 (.seq
 (.reg [im 18 0,ia 19 3 3,il 20 19,im 21 5,iq 22 (.iaddrS 4 (.s 20) (.s 21)),iq 23 (.loadn 4 (.s 22)),iq 24 (.call 68 [.s 18, .s 23]),iq 25 (.not (.s 24))])
 (.cond (.s 25)
 (.seq
 (.reg [iq 4 (.mv (.c (.bool false)))])
 .ret)
 .skip)))
 (.reg [im 16 5,iq 17 (.bin .add (.s 16) (.c (.int .i64 1))),im 5 17]))))))
 (.seq
 (.reg [iq 4 (.mv (.c (.bool true)))])
 .ret))
 (.seq
 (.reg [iq 27 (.eq (.one .i) false (.s 8) (.c (.int .i64 8))),im 26 27])
 (.cond (.s 26)
 (.seqj []
 (.seq
 (.reg [ik 6 0])
 (.block 3
 (.loop [0,3,6]
 (.seqj [0,3,6]
 (.seq
 (.reg [im 28 6,ia 29 3 3,il 30 29,iq 31 (.lenL (.s 30)),iq 32 (.bin .lss (.s 28) (.s 31))])
 (.cond (.s 32)
 .skip
 (.exit 3)))
 (.seqj [0,3,6]
 (.block 4
 (.seq
 (.reg [im 35 0,ia 36 3 3,il 37 36,im 38 6,iq 39 (.iaddrS 4 (.s 37) (.s 38)),iq 40 (.loadn 4 (.s 39)),iq 41 (.call 68 [.s 35, .s 40])])
 (.cond (.s 41)
 (.seq
 (.reg [iq 4 (.mv (.c (.bool true)))])
 .ret)
 .skip)))
 (.reg [im 33 6,iq 34 (.bin .add (.s 33) (.c (.int .i64 1))),im 6 34]))))))
 (.seq
 (.reg [iq 4 (.mv (.c (.bool false)))])
 .ret))
 (.seq
 (.reg [iq 43 (.eq (.one .i) false (.s 8) (.c (.int .i64 9))),im 42 43])
 (.cond (.s 42)
 (.seq
 (.reg [im 44 0,ia 45 1 3,il 46 45,iq 47 (.call 80 [.s 44, .s 46]),im 4 47])
 .ret)
 .skip))))))))
 (.seq
 (.reg [iq 4 (.mv (.c (.bool true)))])
 .ret)))}
theorem Jol :compFn Try.prog Try.f68 [[],[],[0,3,5],[0,3,5],[0,3,5],[],[0,3,6],[0,3,6],[0,3,6]]=some Qc:=by kernel_rfl
def QE :Eva.Fn:={ntmps:=18,res:=[.s 4],body:=
 (.seq
 (.reg [iq 4 (.mv (.c (.bool false)))])
 (.seqj []
 (.seq
 (.reg [ik 5 0])
 (.block 0
 (.loop [0,1,5]
 (.seqj [0,1,5]
 (.seq
 (.reg [im 6 5,im 7 0,iq 8 (.lenL (.s 7)),iq 9 (.bin .lss (.s 6) (.s 8))])
 (.cond (.s 9)
 .skip
 (.exit 0)))
 (.seqj [0,1,5]
 (.block 1
 (.seq
 (.reg [im 12 0,im 13 5,iq 14 (.iaddrS 1 (.s 12) (.s 13)),il 15 14,im 16 1,iq 17 (.eq (.one .s) false (.s 15) (.s 16))])
 (.cond (.s 17)
 (.seq
 (.reg [iq 4 (.mv (.c (.bool true)))])
 .ret)
 .skip)))
 (.reg [im 10 5,iq 11 (.bin .add (.s 10) (.c (.int .i64 1))),im 5 11]))))))
 (.seq
 (.reg [iq 4 (.mv (.c (.bool false)))])
 .ret)))}
theorem Jom :compFn Try.prog Try.f80 [[],[0,1,5],[0,1,5],[0,1,5]]=some QE:=by kernel_rfl
def Qv :Eva.Fn:={ntmps:=52,res:=[.s 2],body:=
 (.seq
 (.reg [iq 1 (.box (.s 0)),iq 2 (.mv (.c .snil))])
 (.seq
 (.reg [iq 3 (.mv (.c .snil))])
 (.seqj [1,3]
 (.seq
 (.reg [ik 4 0])
 (.block 0
 (.loop [1,3,4]
 (.seqj [1,3,4]
 (.seq
 (.reg [im 6 4,ia 7 4 1,il 8 7,iq 9 (.lenL (.s 8)),iq 10 (.bin .lss (.s 6) (.s 9))])
 (.cond (.s 10)
 .skip
 (.exit 0)))
 (.seqj [1,3,4]
 (.block 1
 (.reg [im 13 3,ia 14 4 1,il 15 14,im 16 4,iq 17 (.iaddrS 5 (.s 15) (.s 16)),ia 18 1 17,iq 19 (.loadn 4 (.s 18)),iq 20 (.bsl 4 1 [(.int .i64 0),(ofL []), .snil, .snil] [(0,4,(.s 19))]),iq 21 (.app 4 (.s 13) (.s 20)),im 3 21]))
 (.reg [im 11 4,iq 12 (.bin .add (.s 11) (.c (.int .i64 1))),im 4 12]))))))
 (.seq
 (.reg [im 22 3,ia 23 0 1,iq 24 (.loadn 4 (.s 23)),iq 25 (.bsl 4 1 [(.int .i64 0),(ofL []), .snil, .snil] [(0,4,(.s 24))]),iq 26 (.app 4 (.s 22) (.s 25)),im 3 26])
 (.seqj [3]
 (.seq
 (.reg [ik 5 0])
 (.block 2
 (.loop [1,3,5]
 (.seqj [1,3,5]
 (.seq
 (.reg [im 27 5,ia 28 5 1,il 29 28,iq 30 (.lenL (.s 29)),iq 31 (.bin .lss (.s 27) (.s 30))])
 (.cond (.s 31)
 .skip
 (.exit 2)))
 (.seqj [1,3,5]
 (.block 3
 (.seq
 (.reg [im 34 3,ia 35 5 1,il 36 35,im 37 5,iq 38 (.iaddrS 6 (.s 36) (.s 37)),ia 39 1 38,il 40 39,iq 41 (.app 4 (.s 34) (.s 40)),im 3 41])
 (.reg [im 42 3,ia 43 5 1,il 44 43,im 45 5,iq 46 (.iaddrS 6 (.s 44) (.s 45)),ia 47 2 46,iq 48 (.loadn 4 (.s 47)),iq 49 (.bsl 4 1 [(.int .i64 0),(ofL []), .snil, .snil] [(0,4,(.s 48))]),iq 50 (.app 4 (.s 42) (.s 49)),im 3 50])))
 (.reg [im 32 5,iq 33 (.bin .add (.s 32) (.c (.int .i64 1))),im 5 33]))))))
 (.seq
 (.reg [im 51 3,im 2 51])
 .ret))))))}
theorem Jon :compFn Try.prog Try.f44 [[1,3],[1,3,4],[1,3,4],[1,3,4],[3],[1,3,5],[1,3,5],[1,3,5]]=some Qv:=by kernel_rfl
def Qd :Eva.Fn:={ntmps:=33,res:=[.s 4],body:=
 (.seq
 (.reg [iq 2 (.box (.s 0)),iq 3 (.box (.s 1)),iq 4 (.mv (.c (.bool false)))])
 (.seqj [2,3]
 (.seq
 (.drw [ia 6 0 3,il 7 6,iq 8 (.eq (.one .i) false (.s 7) (.c (.int .i64 6))),im 9 8,ig 10 9 true (.loadn 6 (.s 2)),ig 11 9 true (.faddr 3 (.s 3)),ig 12 9 true (.load1 (.s 11)),ig 13 9 true (.iaddrS 4 (.s 12) (.c (.int .i64 0))),ig 14 9 true (.loadn 4 (.s 13)),⟨(some 15),(.call 69 [.s 10, .s 14]),(some (9,true)),(some [])⟩,ig 16 9 true (.fld 0 none (.s 15)),ig 17 9 true (.eq (.one .i) false (.s 16) (.c (.int .i64 6))),iq 18 (.pick (.s 9) (.s 17) (.c (.bool false)))] [])
 (.cond (.s 18)
 (.seq
 (.reg [iq 4 (.mv (.c (.bool true)))])
 .ret)
 .skip))
 (.seqj []
 (.seq
 (.reg [ik 5 0])
 (.block 0
 (.loop [2,3,5]
 (.seqj [2,3,5]
 (.seq
 (.reg [im 19 5,ia 20 3 3,il 21 20,iq 22 (.lenL (.s 21)),iq 23 (.bin .lss (.s 19) (.s 22))])
 (.cond (.s 23)
 .skip
 (.exit 0)))
 (.seqj [2,3,5]
 (.block 1
 (.seq
 (.drw [iq 26 (.loadn 6 (.s 2)),ia 27 3 3,il 28 27,im 29 5,iq 30 (.iaddrS 4 (.s 28) (.s 29)),iq 31 (.loadn 4 (.s 30)),⟨(some 32),(.call 45 [.s 26, .s 31]),none,(some [])⟩] [])
 (.cond (.s 32)
 (.seq
 (.reg [iq 4 (.mv (.c (.bool true)))])
 .ret)
 .skip)))
 (.reg [im 24 5,iq 25 (.bin .add (.s 24) (.c (.int .i64 1))),im 5 25]))))))
 (.seq
 (.reg [iq 4 (.mv (.c (.bool false)))])
 .ret))))}
theorem Joo :compFn Try.prog Try.f45 [[2,3],[],[2,3,5],[2,3,5],[2,3,5]]=some Qd:=by kernel_rfl
def Qe :Eva.Fn:={ntmps:=26,res:=[(.cn 4 4)],body:=
 (.seq
 (.reg [iq 2 (.box (.s 0)),iq 3 (.box (.s 1)),iq 4 (.alloc [(.int .i64 0),(ofL []), .snil, .snil])])
 (.seqj [3,4]
 (.seq
 (.reg [ik 5 0])
 (.block 0
 (.loop [2,3,4,5]
 (.seqj [2,3,4,5]
 (.seq
 (.reg [im 6 5,ia 7 4 2,il 8 7,iq 9 (.lenL (.s 8)),iq 10 (.bin .leq (.s 6) (.s 9)),im 11 10,ig 12 11 true (.faddr 0 (.s 3)),ig 13 11 true (.load1 (.s 12)),ig 14 11 true (.eq (.one .i) false (.s 13) (.c (.int .i64 9))),iq 15 (.pick (.s 11) (.s 14) (.c (.bool false)))])
 (.cond (.s 15)
 .skip
 (.exit 0)))
 (.seqj [2,3,4,5]
 (.block 1
 (.reg [iq 19 (.loadn 6 (.s 2)),ia 20 1 3,il 21 20,iq 22 (.call 79 [.s 19, .s 21]),im 18 22,ie 23 0 18,ie 24 1 18,iz (.store 4 (.s 3) (.s 23))]))
 (.reg [im 16 5,iq 17 (.bin .add (.s 16) (.c (.int .i64 1))),im 5 17]))))))
 (.seq
 (.reg [iq 25 (.loadn 4 (.s 3)),iz (.store 4 (.s 4) (.s 25))])
 .ret)))}
theorem Jop :compFn Try.prog Try.f69 [[3,4],[2,3,4,5],[2,3,4,5],[2,3,4,5]]=some Qe:=by kernel_rfl
def Kg :Eva.Fn:={ntmps:=98,res:=[.s 4, .s 5],body:=
 (.seq
 (.reg [iq 3 (.box (.s 1)),ik 4 0,ik 5 0])
 (.seq
 (.drw [ia 11 0 3,il 12 11,ia 13 1 3,il 14 13,iq 15 (.bsl 1 0 [] []),ia 16 2 3,il 17 16,iq 18 (.app 1 (.s 15) (.s 17)),iq 19 (.build [(.int .i64 0),(ofL []), .snil, .snil] [(0,1,(.s 12)),(1,1,(.s 14)),(2,1,(.s 18))]),iq 6 (.alloc [(.int .i64 0),(ofL []), .snil, .snil]),iz (.store 4 (.s 6) (.s 19))] [([15],[11]),([15],[13])])
 (.seqj [0,3,6]
 (.seq
 (.reg [ik 7 0])
 (.block 0
 (.loop [0,3,6,7]
 (.seqj [0,3,6,7]
 (.seq
 (.reg [im 20 7,ia 21 3 3,il 22 21,iq 23 (.lenL (.s 22)),iq 24 (.bin .lss (.s 20) (.s 23))])
 (.cond (.s 24)
 .skip
 (.exit 0)))
 (.seqj [0,3,6,7]
 (.block 1
 (.seq
 (.reg [im 28 0,ia 29 3 3,il 30 29,im 31 7,iq 32 (.iaddrS 4 (.s 30) (.s 31)),iq 33 (.loadn 4 (.s 32)),iq 34 (.call 21 [.s 28, .s 33]),im 27 34,ie 35 0 27,ie 36 1 27,im 8 35,im 9 36])
 (.seqj [0,3,6,7,8]
 (.seq
 (.reg [im 37 9,iq 38 (.eq (.one .i) true (.s 37) (.c (.int .i64 0)))])
 (.cond (.s 38)
 (.seq
 (.reg [im 39 9,ik 4 0,im 5 39])
 .ret)
 .skip))
 (.reg [ia 40 3 6,il 41 40,im 42 8,iq 43 (.bsl 1 1 [(.int .i64 0)] [(0,1,(.s 42))]),iq 44 (.app 1 (.s 41) (.s 43)),ia 45 3 6,iz (.store 1 (.s 45) (.s 44))]))))
 (.reg [im 25 7,iq 26 (.bin .add (.s 25) (.c (.int .i64 1))),im 7 26]))))))
 (.seqj [0,3,6]
 (.seq
 (.reg [ik 10 0])
 (.block 2
 (.loop [0,3,6,10]
 (.seqj [0,3,6,10]
 (.seq
 (.reg [im 46 10,im 47 0,iq 48 (.nilck (.s 47)),ia 49 1 48,il 50 49,iq 51 (.lenL (.s 50)),iq 52 (.bin .lss (.s 46) (.s 51))])
 (.cond (.s 52)
 .skip
 (.exit 2)))
 (.seqj [0,3,6,10]
 (.block 3
 (.seq
 (.drw [im 55 0,iq 56 (.nilck (.s 55)),ia 57 1 56,il 58 57,im 59 10,iq 60 (.iaddrS 4 (.s 58) (.s 59)),iq 61 (.loadn 4 (.s 60)),iq 62 (.loadn 4 (.s 3)),⟨(some 63),(.call 46 [.s 61, .s 62]),none,(some [])⟩] [])
 (.cond (.s 63)
 (.seq
 (.reg [im 64 10,im 4 64,ik 5 0])
 .ret)
 .skip)))
 (.reg [im 53 10,iq 54 (.bin .add (.s 53) (.c (.int .i64 1))),im 10 54]))))))
 (.seqj [0,3,6]
 (.seq
 (.reg [im 65 0,iq 66 (.nilck (.s 65)),ia 67 0 66,il 68 67,iq 69 (.lenL (.s 68)),iq 70 (.bin .geq (.s 69) (.c (.int .i64 120)))])
 (.cond (.s 70)
 (.seq
 (.reg [ik 4 0,ik 5 20])
 .ret)
 .skip))
 (.seq
 (.drw [im 71 0,im 72 0,iq 73 (.nilck (.s 72)),ia 74 0 73,il 75 74,iq 76 (.loadn 4 (.s 6)),iq 77 (.bsl 4 1 [(.int .i64 0),(ofL []), .snil, .snil] [(0,4,(.s 76))]),iq 78 (.app 4 (.s 75) (.s 77)),iq 79 (.nilck (.s 71)),ia 80 0 79,iz (.store 1 (.s 80) (.s 78))] [])
 (.seq
 (.drw [im 81 0,iq 82 (.nilck (.s 81)),ia 83 1 82,il 84 83,iq 85 (.loadn 4 (.s 3)),iq 86 (.lenL (.s 84)),iq 87 (.bsl 4 1 [(.int .i64 0),(ofL []), .snil, .snil] [(0,4,(.c (.agg [(.int .i64 0),(ofL []), .snil, .snil])))]),iq 88 (.app 4 (.s 84) (.s 87)),iq 89 (.iaddrS 4 (.s 88) (.s 86)),iz (.store 4 (.s 89) (.s 85)),iq 90 (.nilck (.s 81)),ia 91 1 90,iz (.store 1 (.s 91) (.s 88))] [([89],[91]),([91],[89])])
 (.seq
 (.reg [im 92 0,iq 93 (.nilck (.s 92)),ia 94 0 93,il 95 94,iq 96 (.lenL (.s 95)),iq 97 (.bin .sub (.s 96) (.c (.int .i64 1))),im 4 97,ik 5 0])
 .ret))))))))}
theorem Joq :compFn Try.prog Try.f21 [[0,3,6],[0,3,6,7],[0,3,6,7],[0,3,6,7],[0,3,6,7,8],[0,3,6],[0,3,6,10],[0,3,6,10],[0,3,6,10],[0,3,6]]=some Kg:=by kernel_rfl
def Qf :Eva.Fn:={ntmps:=74,res:=[.s 4],body:=
 (.seq
 (.reg [iq 2 (.box (.s 0)),iq 3 (.box (.s 1)),iq 4 (.mv (.c (.bool false)))])
 (.seqj [2,3]
 (.seq
 (.reg [ia 7 0 2,il 8 7,ia 9 0 3,il 10 9,iq 11 (.eq (.one .i) true (.s 8) (.s 10)),im 12 11,ig 13 12 false (.faddr 1 (.s 2)),ig 14 12 false (.load1 (.s 13)),ig 15 12 false (.faddr 1 (.s 3)),ig 16 12 false (.load1 (.s 15)),ig 17 12 false (.eq (.one .s) true (.s 14) (.s 16)),iq 18 (.pick (.s 12) (.c (.bool true)) (.s 17)),im 19 18,ig 20 19 false (.faddr 2 (.s 2)),ig 21 19 false (.load1 (.s 20)),ig 22 19 false (.lenL (.s 21)),ig 23 19 false (.faddr 2 (.s 3)),ig 24 19 false (.load1 (.s 23)),ig 25 19 false (.lenL (.s 24)),ig 26 19 false (.eq (.one .i) true (.s 22) (.s 25)),iq 27 (.pick (.s 19) (.c (.bool true)) (.s 26)),im 28 27,ig 29 28 false (.faddr 3 (.s 2)),ig 30 28 false (.load1 (.s 29)),ig 31 28 false (.lenL (.s 30)),ig 32 28 false (.faddr 3 (.s 3)),ig 33 28 false (.load1 (.s 32)),ig 34 28 false (.lenL (.s 33)),ig 35 28 false (.eq (.one .i) true (.s 31) (.s 34)),iq 36 (.pick (.s 28) (.c (.bool true)) (.s 35))])
 (.cond (.s 36)
 (.seq
 (.reg [iq 4 (.mv (.c (.bool false)))])
 .ret)
 .skip))
 (.seqj [2,3]
 (.seq
 (.reg [ik 5 0])
 (.block 0
 (.loop [2,3,5]
 (.seqj [2,3,5]
 (.seq
 (.reg [im 37 5,ia 38 2 2,il 39 38,iq 40 (.lenL (.s 39)),iq 41 (.bin .lss (.s 37) (.s 40))])
 (.cond (.s 41)
 .skip
 (.exit 0)))
 (.seqj [2,3,5]
 (.block 1
 (.seq
 (.drw [ia 44 2 2,il 45 44,im 46 5,iq 47 (.iaddrS 1 (.s 45) (.s 46)),il 48 47,ia 49 2 3,il 50 49,im 51 5,iq 52 (.iaddrS 1 (.s 50) (.s 51)),il 53 52,iq 54 (.eq (.one .s) true (.s 48) (.s 53))] [])
 (.cond (.s 54)
 (.seq
 (.reg [iq 4 (.mv (.c (.bool false)))])
 .ret)
 .skip)))
 (.reg [im 42 5,iq 43 (.bin .add (.s 42) (.c (.int .i64 1))),im 5 43]))))))
 (.seqj []
 (.seq
 (.reg [ik 6 0])
 (.block 2
 (.loop [2,3,6]
 (.seqj [2,3,6]
 (.seq
 (.reg [im 55 6,ia 56 3 2,il 57 56,iq 58 (.lenL (.s 57)),iq 59 (.bin .lss (.s 55) (.s 58))])
 (.cond (.s 59)
 .skip
 (.exit 2)))
 (.seqj [2,3,6]
 (.block 3
 (.seq
 (.drw [ia 62 3 2,il 63 62,im 64 6,iq 65 (.iaddrS 4 (.s 63) (.s 64)),iq 66 (.loadn 4 (.s 65)),ia 67 3 3,il 68 67,im 69 6,iq 70 (.iaddrS 4 (.s 68) (.s 69)),iq 71 (.loadn 4 (.s 70)),⟨(some 72),(.call 46 [.s 66, .s 71]),none,(some [])⟩,iq 73 (.not (.s 72))] [])
 (.cond (.s 73)
 (.seq
 (.reg [iq 4 (.mv (.c (.bool false)))])
 .ret)
 .skip)))
 (.reg [im 60 6,iq 61 (.bin .add (.s 60) (.c (.int .i64 1))),im 6 61]))))))
 (.seq
 (.reg [iq 4 (.mv (.c (.bool true)))])
 .ret)))))}
theorem Jor :compFn Try.prog Try.f46 [[2,3],[2,3],[2,3,5],[2,3,5],[2,3,5],[],[2,3,6],[2,3,6],[2,3,6]]=some Qf:=by kernel_rfl
def Ki :Eva.Fn:={ntmps:=15,res:=[.s 4],body:=
 (.seq
 (.reg [ik 4 0])
 (.seq
 (.reg [im 6 0,im 7 1,iq 8 (.bin .rem (.s 6) (.s 7)),im 5 8])
 (.seqj [5]
 (.seq
 (.reg [im 9 5,iq 10 (.bin .lss (.s 9) (.c (.int .i64 0)))])
 (.cond (.s 10)
 (.reg [im 11 5,im 12 1,iq 13 (.bin .add (.s 11) (.s 12)),im 5 13])
 .skip))
 (.seq
 (.reg [im 14 5,im 4 14])
 .ret))))}
theorem Jos :compFn Try.prog Try.f10 [[5]]=some Ki:=by kernel_rfl
def QF :Eva.Fn:={ntmps:=47,res:=[.s 6, .s 7],body:=
 (.seq
 (.reg [iq 6 (.mv (.c (.bool false))),ik 7 0])
 (.seqj [0,1,2]
 (.seq
 (.reg [im 10 1,iq 11 (.bin .lss (.s 10) (.c (.int .i64 0))),im 12 11,ig 13 12 false (.mv (.s 1)),ig 14 12 false (.mv (.s 0)),ig 15 12 false (.nilck (.s 14)),ig 16 12 false (.faddr 0 (.s 15)),ig 17 12 false (.load1 (.s 16)),ig 18 12 false (.lenL (.s 17)),ig 19 12 false (.bin .geq (.s 13) (.s 18)),iq 20 (.pick (.s 12) (.c (.bool true)) (.s 19)),im 21 20,ig 22 21 false (.mv (.s 2)),ig 23 21 false (.bin .lss (.s 22) (.c (.int .i64 0))),iq 24 (.pick (.s 21) (.c (.bool true)) (.s 23)),im 25 24,ig 26 25 false (.mv (.s 2)),ig 27 25 false (.mv (.s 0)),ig 28 25 false (.nilck (.s 27)),ig 29 25 false (.faddr 0 (.s 28)),ig 30 25 false (.load1 (.s 29)),ig 31 25 false (.lenL (.s 30)),ig 32 25 false (.bin .geq (.s 26) (.s 31)),iq 33 (.pick (.s 25) (.c (.bool true)) (.s 32))])
 (.cond (.s 33)
 (.seq
 (.reg [iq 6 (.mv (.c (.bool false))),ik 7 0])
 .ret)
 .skip))
 (.seq
 (.reg [im 34 0,iq 35 (.build [.pnil, .snil] [(0,1,(.s 34))]),iq 36 (.box (.s 35)),im 8 36])
 (.seq
 (.reg [im 37 8,im 38 1,im 39 2,iq 40 (.call 29 [.s 37, .s 38, .s 39]),im 9 40])
 (.seq
 (.drw [im 41 9,im 42 8,iq 43 (.nilck (.s 42)),ia 44 1 43,il 45 44,iq 46 (.lenL (.s 45)),im 6 41,im 7 46] [])
 .ret)))))}
theorem Jot :compFn Try.prog Try.f12 [[0,1,2]]=some QF:=by kernel_rfl
def Ku :Eva.Fn:={ntmps:=181,res:=[.s 6],body:=
 (.seq
 (.reg [iq 6 (.mv (.c (.bool false)))])
 (.seqj [0,1,2]
 (.seq
 (.reg [im 18 1,im 19 2,iq 20 (.eq (.one .i) false (.s 18) (.s 19))])
 (.cond (.s 20)
 (.seq
 (.reg [iq 6 (.mv (.c (.bool true)))])
 .ret)
 .skip))
 (.seqj [0,1,2]
 (.seq
 (.reg [ik 7 0])
 (.block 0
 (.loop [0,1,2,7]
 (.seqj [0,1,2,7]
 (.seq
 (.reg [im 21 7,im 22 0,iq 23 (.nilck (.s 22)),ia 24 1 23,il 25 24,iq 26 (.lenL (.s 25)),iq 27 (.bin .lss (.s 21) (.s 26))])
 (.cond (.s 27)
 .skip
 (.exit 0)))
 (.seqj [0,1,2,7]
 (.block 1
 (.seq
 (.reg [im 30 0,iq 31 (.nilck (.s 30)),ia 32 1 31,il 33 32,im 34 7,iq 35 (.iaddrS 2 (.s 33) (.s 34)),iq 36 (.loadn 2 (.s 35)),im 37 1,im 38 2,iq 39 (.build [(.int .i64 0),(.int .i64 0)] [(0,1,(.s 37)),(1,1,(.s 38))]),iq 40 (.eq (.many [.i, .i]) false (.s 36) (.s 39))])
 (.cond (.s 40)
 (.seq
 (.reg [iq 6 (.mv (.c (.bool true)))])
 .ret)
 .skip)))
 (.reg [im 28 7,iq 29 (.bin .add (.s 28) (.c (.int .i64 1))),im 7 29]))))))
 (.seq
 (.reg [im 41 0,im 42 0,iq 43 (.nilck (.s 42)),ia 44 1 43,il 45 44,im 46 1,im 47 2,iq 48 (.build [(.int .i64 0),(.int .i64 0)] [(0,1,(.s 46)),(1,1,(.s 47))]),iq 49 (.bsl 2 1 [(.int .i64 0),(.int .i64 0)] [(0,2,(.s 48))]),iq 50 (.app 2 (.s 45) (.s 49)),iq 51 (.nilck (.s 41)),ia 52 1 51,iz (.store 1 (.s 52) (.s 50))])
 (.seq
 (.drw [im 53 0,iq 54 (.nilck (.s 53)),ia 55 0 54,il 56 55,im 57 1,iq 58 (.call 56 [.s 56, .s 57]),im 59 0,iq 60 (.nilck (.s 59)),ia 61 0 60,il 62 61,im 63 2,⟨(some 64),(.call 56 [.s 62, .s 63]),none,(some [])⟩,iq 8 (.alloc [(.int .i64 0),(ofL []), .snil, .snil]),iq 9 (.alloc [(.int .i64 0),(ofL []), .snil, .snil]),iz (.store 4 (.s 8) (.s 58)),iz (.store 4 (.s 9) (.s 64))] [])
 (.seqj [0,8,9]
 (.seq
 (.reg [ia 65 0 9,il 66 65,iq 67 (.eq (.one .i) false (.s 66) (.c (.int .i64 6)))])
 (.cond (.s 67)
 (.seqj [0,1,9]
 (.seq
 (.reg [ia 68 0 8,il 69 68,iq 70 (.eq (.one .i) false (.s 69) (.c (.int .i64 6)))])
 (.cond (.s 70)
 (.seq
 (.drw [im 71 0,ia 72 3 8,il 73 72,iq 74 (.iaddrS 1 (.s 73) (.c (.int .i64 0))),il 75 74,ia 76 3 9,il 77 76,iq 78 (.iaddrS 1 (.s 77) (.c (.int .i64 0))),il 79 78,⟨(some 80),(.call 29 [.s 71, .s 75, .s 79]),none,(some [])⟩,im 6 80] [])
 .ret)
 .skip))
 (.seq
 (.reg [im 82 0,iq 83 (.nilck (.s 82)),ia 84 0 83,il 85 84,im 86 1,iq 87 (.call 57 [.s 85, .s 86]),im 81 87,ie 88 0 81,ie 89 1 81,im 10 88,im 11 89])
 (.seq
 (.reg [im 90 0,im 91 10,ia 92 3 9,il 93 92,iq 94 (.iaddrS 1 (.s 93) (.c (.int .i64 0))),il 95 94,iq 96 (.call 29 [.s 90, .s 91, .s 95]),im 6 96])
 .ret)))
 .skip))
 (.seqj [0,8,9]
 (.seq
 (.reg [ia 97 0 8,il 98 97,ia 99 0 9,il 100 99,iq 101 (.eq (.one .i) true (.s 98) (.s 100))])
 (.cond (.s 101)
 (.seq
 (.reg [iq 6 (.mv (.c (.bool false)))])
 .ret)
 .skip))
 (.seqj []
 (.seq
 (.reg [ia 102 0 8,il 103 102])
 (.block 2
 (.seqj [0,8,9,103,104]
 (.seq
 (.reg [iq 105 (.eq (.one .i) false (.s 103) (.c (.int .i64 4))),im 104 105])
 (.cond (.s 104)
 .skip
 (.reg [iq 106 (.eq (.one .i) false (.s 103) (.c (.int .i64 5))),im 104 106])))
 (.cond (.s 104)
 (.seq
 (.drw [im 107 0,ia 108 3 8,il 109 108,iq 110 (.iaddrS 1 (.s 109) (.c (.int .i64 0))),il 111 110,ia 112 3 9,il 113 112,iq 114 (.iaddrS 1 (.s 113) (.c (.int .i64 0))),il 115 114,⟨(some 116),(.call 29 [.s 107, .s 111, .s 115]),none,(some [])⟩,im 6 116] [])
 .ret)
 (.seq
 (.reg [iq 118 (.eq (.one .i) false (.s 103) (.c (.int .i64 7))),im 117 118])
 (.cond (.s 117)
 (.seq
 (.reg [ik 12 0])
 (.block 3
 (.loop [0,8,9,12]
 (.seqj [0,8,9,12]
 (.seq
 (.reg [im 119 12,ia 120 2 9,il 121 120,iq 122 (.lenL (.s 121)),iq 123 (.bin .lss (.s 119) (.s 122))])
 (.cond (.s 123)
 .skip
 (.exit 3)))
 (.seqj [0,8,9,12]
 (.block 4
 (.seq
 (.drw [iq 127 (.loadn 4 (.s 8)),ia 128 2 9,il 129 128,im 130 12,iq 131 (.iaddrS 1 (.s 129) (.s 130)),il 132 131,⟨(some 133),(.call 58 [.s 127, .s 132]),none,(some [])⟩,im 126 133,ie 134 0 126,ie 135 1 126,im 13 134,im 14 135] [])
 (.seq
 (.reg [im 136 14,iq 137 (.not (.s 136)),im 138 137,ig 139 138 false (.mv (.s 0)),ig 140 138 false (.mv (.s 13)),ig 141 138 false (.faddr 3 (.s 9)),ig 142 138 false (.load1 (.s 141)),ig 143 138 false (.mv (.s 12)),ig 144 138 false (.iaddrS 1 (.s 142) (.s 143)),ig 145 138 false (.load1 (.s 144)),ig 146 138 false (.call 29 [.s 139, .s 140, .s 145]),ig 147 138 false (.not (.s 146)),iq 148 (.pick (.s 138) (.c (.bool true)) (.s 147))])
 (.cond (.s 148)
 (.seq
 (.reg [iq 6 (.mv (.c (.bool false)))])
 .ret)
 .skip))))
 (.reg [im 124 12,iq 125 (.bin .add (.s 124) (.c (.int .i64 1))),im 12 125]))))))
 (.seq
 (.reg [iq 150 (.eq (.one .i) false (.s 103) (.c (.int .i64 8))),im 149 150])
 (.cond (.s 149)
 (.seq
 (.reg [ik 15 0])
 (.block 5
 (.loop [0,8,9,15]
 (.seqj [0,8,9,15]
 (.seq
 (.reg [im 151 15,ia 152 2 8,il 153 152,iq 154 (.lenL (.s 153)),iq 155 (.bin .lss (.s 151) (.s 154))])
 (.cond (.s 155)
 .skip
 (.exit 5)))
 (.seqj [0,8,9,15]
 (.block 6
 (.seq
 (.drw [iq 159 (.loadn 4 (.s 9)),ia 160 2 8,il 161 160,im 162 15,iq 163 (.iaddrS 1 (.s 161) (.s 162)),il 164 163,⟨(some 165),(.call 58 [.s 159, .s 164]),none,(some [])⟩,im 158 165,ie 166 0 158,ie 167 1 158,im 16 166,im 17 167] [])
 (.seq
 (.reg [im 168 17,iq 169 (.not (.s 168)),im 170 169,ig 171 170 false (.mv (.s 0)),ig 172 170 false (.faddr 3 (.s 8)),ig 173 170 false (.load1 (.s 172)),ig 174 170 false (.mv (.s 15)),ig 175 170 false (.iaddrS 1 (.s 173) (.s 174)),ig 176 170 false (.load1 (.s 175)),ig 177 170 false (.mv (.s 16)),ig 178 170 false (.call 29 [.s 171, .s 176, .s 177]),ig 179 170 false (.not (.s 178)),iq 180 (.pick (.s 170) (.c (.bool true)) (.s 179))])
 (.cond (.s 180)
 (.seq
 (.reg [iq 6 (.mv (.c (.bool false)))])
 .ret)
 .skip))))
 (.reg [im 156 15,iq 157 (.bin .add (.s 156) (.c (.int .i64 1))),im 15 157]))))))
 .skip))))))))
 (.seq
 (.reg [iq 6 (.mv (.c (.bool true)))])
 .ret)))))))))}
theorem Jou :compFn Try.prog Try.f29 [[0,1,2],[0,1,2],[0,1,2,7],[0,1,2,7],[0,1,2,7],[0,8,9],[0,1,9],[0,8,9],[],[0,8,9,103,104],[0,8,9,12],[0,8,9,12],[0,8,9,12],[0,8,9,15],[0,8,9,15],[0,8,9,15]]=some Ku:=by kernel_rfl
def Kk :Eva.Fn:={ntmps:=20,res:=[(.cn 4 4)],body:=
 (.seq
 (.reg [iq 4 (.alloc [(.int .i64 0),(ofL []), .snil, .snil])])
 (.seq
 (.reg [im 8 0,im 9 1,iq 10 (.call 57 [.s 8, .s 9]),im 7 10,ie 11 0 7,ie 12 1 7,im 5 11,im 6 12])
 (.seq
 (.reg [im 13 0,iq 14 (.nilck (.s 13)),ia 15 0 14,il 16 15,im 17 5,iq 18 (.iaddrS 4 (.s 16) (.s 17)),iq 19 (.loadn 4 (.s 18)),iz (.store 4 (.s 4) (.s 19))])
 .ret)))}
theorem Jov :compFn Try.prog Try.f56 []=some Kk:=by kernel_rfl
def J8 :Eva.Fn:={ntmps:=63,res:=[.s 4, .s 5],body:=
 (.seq
 (.reg [ik 4 0,iq 5 (.mv (.c (.bool false)))])
 (.seqj [0,1]
 (.seq
 (.reg [im 7 1,iq 8 (.bin .lss (.s 7) (.c (.int .i64 0))),im 9 8,ig 10 9 false (.mv (.s 1)),ig 11 9 false (.mv (.s 0)),ig 12 9 false (.nilck (.s 11)),ig 13 9 false (.faddr 0 (.s 12)),ig 14 9 false (.load1 (.s 13)),ig 15 9 false (.lenL (.s 14)),ig 16 9 false (.bin .geq (.s 10) (.s 15)),iq 17 (.pick (.s 9) (.c (.bool true)) (.s 16))])
 (.cond (.s 17)
 (.seq
 (.reg [ik 4 0,iq 5 (.mv (.c (.bool false)))])
 .ret)
 .skip))
 (.seqj [1]
 (.block 0
 (.loop [0,1]
 (.seqj [0,1]
 (.seq
 (.reg [im 18 0,iq 19 (.nilck (.s 18)),ia 20 0 19,il 21 20,im 22 1,iq 23 (.iaddrS 4 (.s 21) (.s 22)),ia 24 0 23,il 25 24,iq 26 (.eq (.one .i) false (.s 25) (.c (.int .i64 9)))])
 (.cond (.s 26)
 .skip
 (.exit 0)))
 (.block 1
 (.seq
 (.reg [ik 6 0])
 (.block 2
 (.loop [0,1,6]
 (.seqj [0,1,6]
 (.seq
 (.reg [im 27 6,im 28 0,iq 29 (.nilck (.s 28)),ia 30 2 29,ia 31 4 30,il 32 31,iq 33 (.lenL (.s 32)),iq 34 (.bin .lss (.s 27) (.s 33))])
 (.cond (.s 34)
 .skip
 (.exit 2)))
 (.seqj [0,1,6]
 (.block 3
 (.seq
 (.drw [im 37 0,iq 38 (.nilck (.s 37)),ia 39 2 38,ia 40 4 39,il 41 40,im 42 6,iq 43 (.iaddrS 5 (.s 41) (.s 42)),ia 44 0 43,il 45 44,im 46 0,iq 47 (.nilck (.s 46)),ia 48 1 47,il 49 48,im 50 1,iq 51 (.iaddrS 4 (.s 49) (.s 50)),ia 52 1 51,il 53 52,iq 54 (.eq (.one .s) false (.s 45) (.s 53))] [])
 (.cond (.s 54)
 (.seq
 (.reg [im 55 0,iq 56 (.nilck (.s 55)),ia 57 8 56,il 58 57,im 59 6,iq 60 (.iaddrS 1 (.s 58) (.s 59)),il 61 60,im 1 61])
 (.exit 2))
 .skip)))
 (.reg [im 35 6,iq 36 (.bin .add (.s 35) (.c (.int .i64 1))),im 6 36]))))))))))
 (.seq
 (.reg [im 62 1,im 4 62,iq 5 (.mv (.c (.bool true)))])
 .ret))))}
theorem Jow :compFn Try.prog Try.f57 [[0,1],[1],[0,1],[0,1],[0,1,6],[0,1,6],[0,1,6]]=some J8:=by kernel_rfl
def Kl :Eva.Fn:={ntmps:=26,res:=[.s 4, .s 5],body:=
 (.seq
 (.reg [iq 2 (.box (.s 0)),ik 4 0,iq 5 (.mv (.c (.bool false)))])
 (.seqj []
 (.seq
 (.reg [ik 6 0])
 (.block 0
 (.loop [1,2,6]
 (.seqj [1,2,6]
 (.seq
 (.reg [im 7 6,ia 8 2 2,il 9 8,iq 10 (.lenL (.s 9)),iq 11 (.bin .lss (.s 7) (.s 10))])
 (.cond (.s 11)
 .skip
 (.exit 0)))
 (.seqj [1,2,6]
 (.block 1
 (.seq
 (.reg [ia 14 2 2,il 15 14,im 16 6,iq 17 (.iaddrS 1 (.s 15) (.s 16)),il 18 17,im 19 1,iq 20 (.eq (.one .s) false (.s 18) (.s 19))])
 (.cond (.s 20)
 (.seq
 (.reg [ia 21 3 2,il 22 21,im 23 6,iq 24 (.iaddrS 1 (.s 22) (.s 23)),il 25 24,im 4 25,iq 5 (.mv (.c (.bool true)))])
 .ret)
 .skip)))
 (.reg [im 12 6,iq 13 (.bin .add (.s 12) (.c (.int .i64 1))),im 6 13]))))))
 (.seq
 (.reg [ik 4 0,iq 5 (.mv (.c (.bool false)))])
 .ret)))}
theorem Jox :compFn Try.prog Try.f58 [[],[1,2,6],[1,2,6],[1,2,6]]=some Kl:=by kernel_rfl
noncomputable def tabD :BT:=
 (.node 43 (.node 22 (.node 12 (.node 7 (.node 4 (.node 3 (.leaf 3 (fnD 1000000 Kd))
 (.leaf 4 (fnD 1000000 KJ)))
 (.node 5 (.leaf 5 (fnD 1000000 Qp))
 (.node 6 (.leaf 6 (fnD 1000000 Qa))
 (.leaf 7 (fnD 1000000 Yh)))))
 (.node 9 (.node 8 (.leaf 8 (fnD 1000000 Qs))
 (.leaf 9 (fnD 1000000 Kw)))
 (.node 10 (.leaf 10 (fnD 1000000 Ki))
 (.node 11 (.leaf 11 (fnD 1000000 QT))
 (.leaf 12 (fnD 1000000 QF))))))
 (.node 17 (.node 14 (.node 13 (.leaf 13 (fnD 1000000 Kh))
 (.leaf 14 (fnD 1000000 Qq)))
 (.node 15 (.leaf 15 (fnD 1000000 Qb))
 (.node 16 (.leaf 16 (fnD 1000000 Qr))
 (.leaf 17 (fnD 1000000 Qk)))))
 (.node 19 (.node 18 (.leaf 18 (fnD 1000000 KY))
 (.leaf 19 (fnD 1000000 JO)))
 (.node 20 (.leaf 20 (fnD 1000000 KP))
 (.node 21 (.leaf 21 (fnD 1000000 Kg))
 (.leaf 22 (fnD 1000000 JR)))))))
 (.node 32 (.node 27 (.node 24 (.node 23 (.leaf 23 (fnD 1000000 Qn))
 (.leaf 24 (fnD 1000000 QK)))
 (.node 25 (.leaf 25 (fnD 1000000 kV))
 (.node 26 (.leaf 26 (fnD 1000000 KL))
 (.leaf 27 (fnD 1000000 KM)))))
 (.node 29 (.node 28 (.leaf 28 (fnD 1000000 JP))
 (.leaf 29 (fnD 1000000 Ku)))
 (.node 30 (.leaf 30 (fnD 1000000 Ql))
 (.node 31 (.leaf 31 (fnD 1000000 Qm))
 (.leaf 32 (fnD 1000000 Ky))))))
 (.node 37 (.node 34 (.node 33 (.leaf 33 (fnD 1000000 J7))
 (.leaf 34 (fnD 1000000 QA)))
 (.node 35 (.leaf 35 (fnD 1000000 JM))
 (.node 36 (.leaf 36 (fnD 1000000 Qo))
 (.leaf 37 (fnD 1000000 Kt)))))
 (.node 40 (.node 38 (.leaf 38 (fnD 1000000 JS))
 (.node 39 (.leaf 39 (fnD 1000000 JW))
 (.leaf 40 (fnD 1000000 JC))))
 (.node 41 (.leaf 41 (fnD 1000000 Kj))
 (.node 42 (.leaf 42 (fnD 1000000 Jj))
 (.leaf 43 (fnD 1000000 KE))))))))
 (.node 64 (.node 53 (.node 48 (.node 45 (.node 44 (.leaf 44 (fnD 1000000 Qv))
 (.leaf 45 (fnD 1000000 Qd)))
 (.node 46 (.leaf 46 (fnD 1000000 Qf))
 (.node 47 (.leaf 47 (fnD 1000000 Qh))
 (.leaf 48 (hookE Yf)))))
 (.node 50 (.node 49 (.leaf 49 (fnD 1000000 K0))
 (.leaf 50 (fnD 1000000 Ke)))
 (.node 51 (.leaf 51 (fnD 1000000 JK))
 (.node 52 (.leaf 52 (fnD 1000000 KB))
 (.leaf 53 (fnD 1000000 KO))))))
 (.node 58 (.node 55 (.node 54 (.leaf 54 (fnD 1000000 Qw))
 (.leaf 55 (fnD 1000000 Qx)))
 (.node 56 (.leaf 56 (fnD 1000000 Kk))
 (.node 57 (.leaf 57 (fnD 1000000 J8))
 (.leaf 58 (fnD 1000000 Kl)))))
 (.node 61 (.node 59 (.leaf 59 (fnD 1000000 J9))
 (.node 60 (.leaf 60 (fnD 1000000 KU))
 (.leaf 61 (fnD 1000000 KA))))
 (.node 62 (.leaf 62 (fnD 1000000 Q4))
 (.node 63 (.leaf 63 (fnD 1000000 JU))
 (.leaf 64 (fnD 1000000 KZ)))))))
 (.node 75 (.node 69 (.node 66 (.node 65 (.leaf 65 (fnD 1000000 JF))
 (.leaf 66 (fnD 1000000 JX)))
 (.node 67 (.leaf 67 (fnD 1000000 Qt))
 (.node 68 (.leaf 68 (fnD 1000000 Qc))
 (.leaf 69 (fnD 1000000 Qe)))))
 (.node 71 (.node 70 (.leaf 70 (fnD 1000000 Qi))
 (.leaf 71 (fnD 1000000 YF)))
 (.node 73 (.leaf 73 (fnD 1000000 K8))
 (.node 74 (.leaf 74 (fnD 1000000 KN))
 (.leaf 75 (fnD 1000000 QM))))))
 (.node 80 (.node 77 (.node 76 (.leaf 76 (fnD 1000000 QB))
 (.leaf 77 (fnD 1000000 QC)))
 (.node 78 (.leaf 78 (fnD 1000000 Q5))
 (.node 79 (.leaf 79 (fnD 1000000 Qu))
 (.leaf 80 (fnD 1000000 QE)))))
 (.node 83 (.node 81 (.leaf 81 (fnD 1000000 Q2))
 (.node 82 (.leaf 82 (fnD 1000000 Q3))
 (.leaf 83 (fnD 1000000 Ks))))
 (.node 85 (.leaf 85 (fnD 1000000 QD))
 (.node 86 (.leaf 86 (fnD 1000000 K9))
 (.leaf 91 (fnD 1000000 Kf)))))))))
abbrev jD :Nat:=3
theorem jt :tabT tabD 3=some (evFn 1000000 Kd):=by kernel_rfl
abbrev Jbn :Nat:=4
theorem Jau :tabT tabD 4=some (evFn 1000000 KJ):=by kernel_rfl
abbrev JcQ :Nat:=5
theorem Jb3 :tabT tabD 5=some (evFn 1000000 Qp):=by kernel_rfl
abbrev Jb4 :Nat:=6
theorem Jbo :tabT tabD 6=some (evFn 1000000 Qa):=by kernel_rfl
abbrev Jav :Nat:=7
theorem JcM :tabT tabD 7=some (evFn 1000000 Yh):=by kernel_rfl
abbrev JcR :Nat:=8
theorem Jb5 :tabT tabD 8=some (evFn 1000000 Qs):=by kernel_rfl
abbrev kW :Nat:=9
theorem kB :tabT tabD 9=some (evFn 1000000 Kw):=by kernel_rfl
abbrev Jaw :Nat:=10
theorem qE :tabT tabD 10=some (evFn 1000000 Ki):=by kernel_rfl
abbrev Jax :Nat:=11
theorem jZ :tabT tabD 11=some (evFn 1000000 QT):=by kernel_rfl
abbrev Jej :Nat:=12
theorem JcS :tabT tabD 12=some (evFn 1000000 QF):=by kernel_rfl
abbrev Jay :Nat:=13
theorem qF :tabT tabD 13=some (evFn 1000000 Kh):=by kernel_rfl
abbrev JcT :Nat:=14
theorem Jb6 :tabT tabD 14=some (evFn 1000000 Qq):=by kernel_rfl
abbrev Jb7 :Nat:=15
theorem Jbp :tabT tabD 15=some (evFn 1000000 Qb):=by kernel_rfl
abbrev JcU :Nat:=16
theorem Jb8 :tabT tabD 16=some (evFn 1000000 Qr):=by kernel_rfl
abbrev kF :Nat:=17
theorem j7 :tabT tabD 17=some (evFn 1000000 Qk):=by kernel_rfl
abbrev Yv :Nat:=18
theorem Jbq :tabT tabD 18=some (evFn 1000000 KY):=by kernel_rfl
abbrev qG :Nat:=19
theorem j8 :tabT tabD 19=some (evFn 1000000 JO):=by kernel_rfl
abbrev kC :Nat:=20
theorem Jaz :tabT tabD 20=some (evFn 1000000 KP):=by kernel_rfl
abbrev jE :Nat:=21
theorem ju :tabT tabD 21=some (evFn 1000000 Kg):=by kernel_rfl
abbrev JaA :Nat:=22
theorem qH :tabT tabD 22=some (evFn 1000000 JR):=by kernel_rfl
abbrev JcV :Nat:=23
theorem Jb9 :tabT tabD 23=some (evFn 1000000 Qn):=by kernel_rfl
abbrev jv :Nat:=24
theorem qZ :tabT tabD 24=some (evFn 1000000 QK):=by kernel_rfl
abbrev Jib :Nat:=25
theorem JkH :tabT tabD 25=some (evFn 1000000 kV):=by kernel_rfl
abbrev Yo :Nat:=26
theorem JaB :tabT tabD 26=some (evFn 1000000 KL):=by kernel_rfl
abbrev Jbr :Nat:=27
theorem JaC :tabT tabD 27=some (evFn 1000000 KM):=by kernel_rfl
abbrev QL :Nat:=28
theorem Yp :tabT tabD 28=some (evFn 1000000 JP):=by kernel_rfl
abbrev qI :Nat:=29
theorem j9 :tabT tabD 29=some (evFn 1000000 Ku):=by kernel_rfl
abbrev Jaa :Nat:=30
theorem qb :tabT tabD 30=some (evFn 1000000 Ql):=by kernel_rfl
abbrev Jab :Nat:=31
theorem qd :tabT tabD 31=some (evFn 1000000 Qm):=by kernel_rfl
abbrev kf :Nat:=32
theorem qJ :tabT tabD 32=some (evFn 1000000 Ky):=by kernel_rfl
abbrev YJ :Nat:=33
theorem YG :tabT tabD 33=some (evFn 1000000 J7):=by kernel_rfl
abbrev qe :Nat:=34
theorem JcW :tabT tabD 34=some (evFn 1000000 QA):=by kernel_rfl
abbrev kg :Nat:=35
theorem YQ :tabT tabD 35=some (evFn 1000000 JM):=by kernel_rfl
abbrev Jac :Nat:=36
theorem qf :tabT tabD 36=some (evFn 1000000 Qo):=by kernel_rfl
abbrev qK :Nat:=37
theorem qg :tabT tabD 37=some (evFn 1000000 Kt):=by kernel_rfl
abbrev Jca :Nat:=38
theorem Jbs :tabT tabD 38=some (evFn 1000000 JS):=by kernel_rfl
abbrev Jbt :Nat:=39
theorem JaD :tabT tabD 39=some (evFn 1000000 JW):=by kernel_rfl
abbrev Jcb :Nat:=40
theorem Jbu :tabT tabD 40=some (evFn 1000000 JC):=by kernel_rfl
abbrev YH :Nat:=41
theorem jF :tabT tabD 41=some (evFn 1000000 Kj):=by kernel_rfl
abbrev qL :Nat:=42
theorem qi :tabT tabD 42=some (evFn 1000000 Jj):=by kernel_rfl
abbrev JaE :Nat:=43
theorem qM :tabT tabD 43=some (evFn 1000000 KE):=by kernel_rfl
abbrev JcX :Nat:=44
theorem Jcc :tabT tabD 44=some (evFn 1000000 Qv):=by kernel_rfl
abbrev Jcd :Nat:=45
theorem Jbv :tabT tabD 45=some (evFn 1000000 Qd):=by kernel_rfl
abbrev Jce :Nat:=46
theorem Jbw :tabT tabD 46=some (evFn 1000000 Qf):=by kernel_rfl
abbrev Jgi :Nat:=47
theorem Jet :tabT tabD 47=some (evFn 1000000 Qh):=by kernel_rfl
abbrev JiR :Nat:=48
theorem YK :tabT tabD 48=some (hookE Yf).b:=by kernel_rfl
abbrev Jcf :Nat:=49
theorem Jbx :tabT tabD 49=some (evFn 1000000 K0):=by kernel_rfl
abbrev kX :Nat:=50
theorem Jby :tabT tabD 50=some (evFn 1000000 Ke):=by kernel_rfl
abbrev jG :Nat:=51
theorem jw :tabT tabD 51=some (evFn 1000000 JK):=by kernel_rfl
abbrev JaF :Nat:=52
theorem qN :tabT tabD 52=some (evFn 1000000 KB):=by kernel_rfl
abbrev Jbz :Nat:=53
theorem JaG :tabT tabD 53=some (evFn 1000000 KO):=by kernel_rfl
abbrev Jkb :Nat:=54
theorem JiS :tabT tabD 54=some (evFn 1000000 Qw):=by kernel_rfl
abbrev Jkc :Nat:=55
theorem JiT :tabT tabD 55=some (evFn 1000000 Qx):=by kernel_rfl
abbrev qj :Nat:=56
theorem jH :tabT tabD 56=some (evFn 1000000 Kk):=by kernel_rfl
abbrev jx :Nat:=57
theorem kY :tabT tabD 57=some (evFn 1000000 J8):=by kernel_rfl
abbrev qm :Nat:=58
theorem jI :tabT tabD 58=some (evFn 1000000 Kl):=by kernel_rfl
abbrev Jgj :Nat:=59
theorem Jeu :tabT tabD 59=some (evFn 1000000 J9):=by kernel_rfl
abbrev Jek :Nat:=60
theorem JcY :tabT tabD 60=some (evFn 1000000 KU):=by kernel_rfl
abbrev JaH :Nat:=61
theorem qO :tabT tabD 61=some (evFn 1000000 KA):=by kernel_rfl
abbrev Jgk :Nat:=62
theorem Jev :tabT tabD 62=some (evFn 1000000 Q4):=by kernel_rfl
abbrev kZ :Nat:=63
theorem kG :tabT tabD 63=some (evFn 1000000 JU):=by kernel_rfl
abbrev Jcg :Nat:=64
theorem JbA :tabT tabD 64=some (evFn 1000000 KZ):=by kernel_rfl
abbrev JaI :Nat:=65
theorem qP :tabT tabD 65=some (evFn 1000000 JF):=by kernel_rfl
abbrev JbB :Nat:=66
theorem JaJ :tabT tabD 66=some (evFn 1000000 JX):=by kernel_rfl
abbrev JcZ :Nat:=67
theorem Jch :tabT tabD 67=some (evFn 1000000 Qt):=by kernel_rfl
abbrev ja :Nat:=68
theorem JbC :tabT tabD 68=some (evFn 1000000 Qc):=by kernel_rfl
abbrev Jci :Nat:=69
theorem JbD :tabT tabD 69=some (evFn 1000000 Qe):=by kernel_rfl
abbrev Jgl :Nat:=70
theorem Jew :tabT tabD 70=some (evFn 1000000 Qi):=by kernel_rfl
abbrev JiU :Nat:=71
theorem Jic :tabT tabD 71=some (evFn 1000000 YF):=by kernel_rfl
abbrev Jcj :Nat:=73
theorem JbE :tabT tabD 73=some (evFn 1000000 K8):=by kernel_rfl
abbrev JbF :Nat:=74
theorem JaK :tabT tabD 74=some (evFn 1000000 KN):=by kernel_rfl
abbrev JkI :Nat:=75
theorem Jkd :tabT tabD 75=some (evFn 1000000 QM):=by kernel_rfl
abbrev ki :Nat:=76
theorem Jc0 :tabT tabD 76=some (evFn 1000000 QB):=by kernel_rfl
abbrev Jmr :Nat:=77
theorem Jc1 :tabT tabD 77=some (evFn 1000000 QC):=by kernel_rfl
abbrev Jgm :Nat:=78
theorem Jex :tabT tabD 78=some (evFn 1000000 Q5):=by kernel_rfl
abbrev Jc2 :Nat:=79
theorem Jck :tabT tabD 79=some (evFn 1000000 Qu):=by kernel_rfl
abbrev Jel :Nat:=80
theorem Jc3 :tabT tabD 80=some (evFn 1000000 QE):=by kernel_rfl
abbrev Jgn :Nat:=81
theorem Jey :tabT tabD 81=some (evFn 1000000 Q2):=by kernel_rfl
abbrev jy :Nat:=82
theorem Jez :tabT tabD 82=some (evFn 1000000 Q3):=by kernel_rfl
abbrev JeA :Nat:=83
theorem Jem :tabT tabD 83=some (evFn 1000000 Ks):=by kernel_rfl
abbrev Jen :Nat:=85
theorem Jc4 :tabT tabD 85=some (evFn 1000000 QD):=by kernel_rfl
abbrev jb :Nat:=86
theorem JbG :tabT tabD 86=some (evFn 1000000 K9):=by kernel_rfl
abbrev jJ :Nat:=91
theorem jz :tabT tabD 91=some (evFn 1000000 Kf):=by kernel_rfl
theorem mixed :Try.prog.follows .mixedOrders=true:=by kernel_rfl
theorem Jpz {ρ:Nat->Value}{W:World}(hρ:∀i,(ρ i).oneCell'=true)(hm:hasM 0 W):tabD.all fun i e=>BodyOK Try.prog ρ ⟨W.heap.size,W⟩ i e.b:=
 ⟨⟨⟨⟨⟨⟨Jt Jps Try.func3 (by decide) hρ mixed,Jt Jpt Try.func4 (by decide) hρ mixed⟩,⟨Jt Jpw Try.func5 (by decide) hρ mixed,⟨Jt Jpx Try.func6 (by decide) hρ mixed,Jt Jpu Try.func7 (by decide) hρ mixed⟩⟩⟩,⟨⟨Jt Jpy Try.func8 (by decide) hρ mixed,Jt Jpv Try.func9 (by decide) hρ mixed⟩,⟨Jt Jos Try.func10 (by decide) hρ mixed,⟨Jt JnP Try.func11 (by decide) hρ mixed,Jt Jot Try.func12 (by decide) hρ mixed⟩⟩⟩⟩,⟨⟨⟨Jt Jn7 Try.func13 (by decide) hρ mixed,Jt Jn8 Try.func14 (by decide) hρ mixed⟩,⟨Jt Jn9 Try.func15 (by decide) hρ mixed,⟨Jt Joa Try.func16 (by decide) hρ mixed,Jt Jnl Try.func17 (by decide) hρ mixed⟩⟩⟩,⟨⟨Jt JnJ Try.func18 (by decide) hρ mixed,Jt Jnz Try.func19 (by decide) hρ mixed⟩,⟨Jt Job Try.func20 (by decide) hρ mixed,⟨Jt Joq Try.func21 (by decide) hρ mixed,Jt JnO Try.func22 (by decide) hρ mixed⟩⟩⟩⟩⟩,⟨⟨⟨⟨Jt Jny Try.func23 (by decide) hρ mixed,Jt JnQ Try.func24 (by decide) hρ mixed⟩,⟨Jt JnR Try.func25 (by decide) hρ mixed,⟨Jt JnV Try.func26 (by decide) hρ mixed,Jt JnW Try.func27 (by decide) hρ mixed⟩⟩⟩,⟨⟨Jt Jn0 Try.func28 (by decide) hρ mixed,Jt Jou Try.func29 (by decide) hρ mixed⟩,⟨Jt Jnm Try.func30 (by decide) hρ mixed,⟨Jt Jnt Try.func31 (by decide) hρ mixed,Jt Jnu Try.func32 (by decide) hρ mixed⟩⟩⟩⟩,⟨⟨⟨Jt Jnx Try.func33 (by decide) hρ mixed,Jt JnB Try.func34 (by decide) hρ mixed⟩,⟨Jt JnE Try.func35 (by decide) hρ mixed,⟨Jt JnH Try.func36 (by decide) hρ mixed,Jt JnI Try.func37 (by decide) hρ mixed⟩⟩⟩,⟨⟨Jt JnK Try.func38 (by decide) hρ mixed,⟨Jt Joc Try.func39 (by decide) hρ mixed,Jt Jof Try.func40 (by decide) hρ mixed⟩⟩,⟨Jt Jog Try.func41 (by decide) hρ mixed,⟨Jt Joj Try.func42 (by decide) hρ mixed,Jt Jok Try.func43 (by decide) hρ mixed⟩⟩⟩⟩⟩⟩,⟨⟨⟨⟨⟨Jt Jon Try.func44 (by decide) hρ mixed,Jt Joo Try.func45 (by decide) hρ mixed⟩,⟨Jt Jor Try.func46 (by decide) hρ mixed,⟨Jt Jnn Try.func47 (by decide) hρ mixed,JgI Try.func48 (by kernel_rfl) (by decide) hm fun s sub m w hs hm=>Try.strings_Contains s sub m w hs hm⟩⟩⟩,⟨⟨Jt JnS Try.func49 (by decide) hρ mixed,Jt JnT Try.func50 (by decide) hρ mixed⟩,⟨Jt JnN Try.func51 (by decide) hρ mixed,⟨Jt Jn1 Try.func52 (by decide) hρ mixed,Jt Jn3 Try.func53 (by decide) hρ mixed⟩⟩⟩⟩,⟨⟨⟨Jt Jn4 Try.func54 (by decide) hρ mixed,Jt Jn5 Try.func55 (by decide) hρ mixed⟩,⟨Jt Jov Try.func56 (by decide) hρ mixed,⟨Jt Jow Try.func57 (by decide) hρ mixed,Jt Jox Try.func58 (by decide) hρ mixed⟩⟩⟩,⟨⟨Jt Jnv Try.func59 (by decide) hρ mixed,⟨Jt Jnw Try.func60 (by decide) hρ mixed,Jt JnA Try.func61 (by decide) hρ mixed⟩⟩,⟨Jt JnC Try.func62 (by decide) hρ mixed,⟨Jt JnF Try.func63 (by decide) hρ mixed,Jt JnL Try.func64 (by decide) hρ mixed⟩⟩⟩⟩⟩,⟨⟨⟨⟨Jt Jod Try.func65 (by decide) hρ mixed,Jt Joe Try.func66 (by decide) hρ mixed⟩,⟨Jt Joh Try.func67 (by decide) hρ mixed,⟨Jt Jol Try.func68 (by decide) hρ mixed,Jt Jop Try.func69 (by decide) hρ mixed⟩⟩⟩,⟨⟨Jt Jno Try.func70 (by decide) hρ mixed,Jt Jnp Try.func71 (by decide) hρ mixed⟩,⟨Jt JnU Try.func73 (by decide) hρ mixed,⟨Jt Jn2 Try.func74 (by decide) hρ mixed,Jt Jn6 Try.func75 (by decide) hρ mixed⟩⟩⟩⟩,⟨⟨⟨Jt JnD Try.func76 (by decide) hρ mixed,Jt JnG Try.func77 (by decide) hρ mixed⟩,⟨Jt JnM Try.func78 (by decide) hρ mixed,⟨Jt Joi Try.func79 (by decide) hρ mixed,Jt Jom Try.func80 (by decide) hρ mixed⟩⟩⟩,⟨⟨Jt Jnq Try.func81 (by decide) hρ mixed,⟨Jt Jnr Try.func82 (by decide) hρ mixed,Jt Jns Try.func83 (by decide) hρ mixed⟩⟩,⟨Jt JnX Try.func85 (by decide) hρ mixed,⟨Jt JnZ Try.func86 (by decide) hρ mixed,Jt JnY Try.func91 (by decide) hρ mixed⟩⟩⟩⟩⟩⟩⟩
end Go.Proofs.Ytcahllomeaimeaa
