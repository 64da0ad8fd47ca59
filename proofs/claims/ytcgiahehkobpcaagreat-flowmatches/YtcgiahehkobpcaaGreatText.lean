/- The code of functions, as the evaluator has it; a table of them. No condition. -/
import Derived.Test.YtcgiahehkobpcaaGreatPlace
namespace Go.Proofs.YtcgiahehkobpcaaGreat
open Eva Go.RowKit
set_option maxRecDepth 100000
def JC :Eva.Fn:={ntmps:=135,res:=[.s 8],body:=
 (.seq
 (.reg [iq 8 (.mv (.c (.bool false)))])
 (.seqj [0,1,2,3]
 (.seq
 (.reg [iq 18 (.call 5 []),iq 19 (.not (.s 18))])
 (.cond (.s 19)
 (.seq
 (.reg [iq 8 (.mv (.c (.bool false)))])
 .ret)
 .skip))
 (.seq
 (.reg [im 20 0,iq 21 (.call 6 [.s 20,(.c (.int .i64 6))]),iq 22 (.bin .add (.c (.int .i64 1)) (.s 21)),im 0 22])
 (.seq
 (.reg [iq 23 (.build [(.int .i64 0),(ofL []), .snil, .snil] [(0,1,(.c (.int .i64 8)))]),iq 9 (.alloc [(.int .i64 0),(ofL []), .snil, .snil]),iz (.store 4 (.s 9) (.s 23))])
 (.seqj [0,1,2,3,9]
 (.seq
 (.reg [ik 10 0])
 (.block 0
 (.loop [0,1,2,3,9,10]
 (.seqj [0,1,2,3,9,10]
 (.seq
 (.reg [im 24 10,im 25 0,iq 26 (.bin .lss (.s 24) (.s 25))])
 (.cond (.s 26)
 .skip
 (.exit 0)))
 (.seqj [0,1,2,3,9,10]
 (.block 1
 (.drw [ia 29 2 9,il 30 29,im 31 10,iq 32 (.bin .add (.c (.int .i64 97)) (.s 31)),iq 33 (.toint .u8 (.s 32)),iq 34 (.bsl 1 1 [(.int .u8 0)] [(0,1,(.s 33))]),iq 35 (.bts (.s 34)),iq 36 (.bsl 1 1 [(ofL [])] [(0,1,(.s 35))]),iq 37 (.app 1 (.s 30) (.s 36)),ia 38 3 9,il 39 38,im 40 10,iq 41 (.bin .rem (.s 40) (.c (.int .i64 3))),iq 42 (.bin .add (.c (.int .i64 1)) (.s 41)),iq 43 (.build [(.int .i64 0),(ofL []), .snil, .snil] [(0,1,(.s 42))]),iq 44 (.bsl 4 1 [(.int .i64 0),(ofL []), .snil, .snil] [(0,4,(.s 43))]),iq 45 (.app 4 (.s 39) (.s 44)),ia 46 2 9,iz (.store 1 (.s 46) (.s 37)),ia 47 3 9,iz (.store 1 (.s 47) (.s 45))] [([30],[38])]))
 (.reg [im 27 10,iq 28 (.bin .add (.s 27) (.c (.int .i64 1))),im 10 28]))))))
 (.seq
 (.reg [iq 11 (.alloc [(.bool false),(.bool false),(.bool false),(.bool false),(.bool false),(.bool false),(.bool false),(.bool false),(.bool false)])])
 (.seq
 (.reg [ik 12 0,ik 13 0])
 (.seq
 (.reg [iq 14 (.mv (.c (ofL [123,123,109,97,116,99,104,32,46,125,125])))])
 (.seqj [0,2,9,12,13,14]
 (.seq
 (.reg [ik 15 0])
 (.block 2
 (.loop [0,1,2,3,9,11,12,13,14,15]
 (.seqj [0,1,2,3,9,11,12,13,14,15]
 (.seq
 (.reg [im 48 15,im 49 1,iq 50 (.lenL (.s 49)),iq 51 (.bin .lss (.s 48) (.s 50)),im 52 51,ig 53 52 true (.mv (.s 15)),ig 54 52 true (.bin .lss (.s 53) (.c (.int .i64 9))),iq 55 (.pick (.s 52) (.s 54) (.c (.bool false)))])
 (.cond (.s 55)
 .skip
 (.exit 2)))
 (.seqj [0,1,2,3,9,11,12,13,14,15]
 (.block 3
 (.seq
 (.reg [im 58 1,im 59 15,iq 60 (.iaddrS 1 (.s 58) (.s 59)),il 61 60,iq 62 (.call 6 [.s 61,(.c (.int .i64 7))]),im 16 62])
 (.seq
 (.drw [im 63 14,iq 64 (.bin .add (.s 63) (.c (ofL [123,123,99,97,115,101,32]))),im 65 16,iq 66 (.bin .add (.c (.int .i64 97)) (.s 65)),iq 67 (.toint .u8 (.s 66)),iq 68 (.bsl 1 1 [(.int .u8 0)] [(0,1,(.s 67))]),iq 69 (.bts (.s 68)),iq 70 (.bin .add (.s 64) (.s 69)),iq 71 (.bin .add (.s 70) (.c (ofL [125,125,123,123]))),iq 72 (.bsl 1 3 [(ofL []),(ofL []),(ofL [])] [(0,1,(.c (ofL [46]))),(1,1,(.c (ofL [108,101,110,32,46]))),(2,1,(.c (ofL [97,100,100,32,46,32,49])))]),im 73 3,⟨(some 74),(.call 6 [.s 73,(.c (.int .i64 3))]),none,(some [68])⟩,iq 75 (.iaddrS 1 (.s 72) (.s 74)),il 76 75,iq 77 (.bin .add (.s 71) (.s 76)),iq 78 (.bin .add (.s 77) (.c (ofL [125,125]))),im 14 78] [])
 (.seqj [0,1,2,3,9,11,12,13,14,15,16]
 (.seq
 (.reg [im 79 12,iq 80 (.eq (.one .i) true (.s 79) (.c (.int .i64 0)))])
 (.cond (.s 80)
 (.exit 3)
 .skip))
 (.seq
 (.reg [im 81 16,iq 82 (.bin .rem (.s 81) (.c (.int .i64 3))),iq 83 (.bin .add (.c (.int .i64 1)) (.s 82)),im 17 83])
 (.seqj [0,1,2,3,9,11,12,13,14,15,16]
 (.block 4
 (.seq
 (.reg [im 85 16,im 86 0,iq 87 (.bin .geq (.s 85) (.s 86)),im 88 87,ig 89 88 false (.mv (.s 16)),ig 90 88 false (.iaddrA 9 1 (.s 11) (.s 89)),ig 91 88 false (.load1 (.s 90)),iq 92 (.pick (.s 88) (.c (.bool true)) (.s 91)),im 84 92])
 (.cond (.s 84)
 (.reg [ik 12 19])
 (.seq
 (.reg [im 94 3,iq 95 (.call 6 [.s 94,(.c (.int .i64 3))]),iq 96 (.eq (.one .i) false (.s 95) (.c (.int .i64 1))),im 97 96,ig 98 97 true (.mv (.s 17)),ig 99 97 true (.eq (.one .i) true (.s 98) (.c (.int .i64 3))),iq 100 (.pick (.s 97) (.s 99) (.c (.bool false))),im 101 100,ig 102 101 false (.mv (.s 3)),ig 103 101 false (.call 6 [.s 102,(.c (.int .i64 3))]),ig 104 101 false (.eq (.one .i) false (.s 103) (.c (.int .i64 2))),ig 105 101 false (.mv (.s 104)),ig 106 105 true (.mv (.s 17)),ig 107 105 true (.eq (.one .i) true (.s 106) (.c (.int .i64 2))),ig 108 101 false (.pick (.s 105) (.s 107) (.c (.bool false))),iq 109 (.pick (.s 101) (.c (.bool true)) (.s 108)),im 93 109])
 (.cond (.s 93)
 (.reg [ik 12 17])
 .skip)))))
 (.seq
 (.reg [im 110 16,iq 111 (.iaddrA 9 1 (.s 11) (.s 110)),iz (.store 1 (.s 111) (.c (.bool true)))])
 (.reg [im 112 13,iq 113 (.bin .add (.s 112) (.c (.int .i64 1))),im 13 113]))))))))
 (.reg [im 56 15,iq 57 (.bin .add (.s 56) (.c (.int .i64 1))),im 15 57]))))))
 (.seqj [2,9,12,14]
 (.seq
 (.reg [im 114 12,iq 115 (.eq (.one .i) false (.s 114) (.c (.int .i64 0))),im 116 115,ig 117 116 true (.mv (.s 2)),ig 118 116 true (.not (.s 117)),iq 119 (.pick (.s 116) (.s 118) (.c (.bool false))),im 120 119,ig 121 120 true (.mv (.s 13)),ig 122 120 true (.mv (.s 0)),ig 123 120 true (.bin .lss (.s 121) (.s 122)),iq 124 (.pick (.s 120) (.s 123) (.c (.bool false)))])
 (.cond (.s 124)
 (.reg [ik 12 19])
 .skip))
 (.seqj [9,12,14]
 (.seq
 (.reg [im 125 2])
 (.cond (.s 125)
 (.reg [im 126 14,iq 127 (.bin .add (.s 126) (.c (ofL [123,123,101,108,115,101,125,125,101]))),im 14 127])
 .skip))
 (.seq
 (.reg [iq 128 (.loadn 4 (.s 9)),iq 129 (.build [(.int .i64 0),(ofL []), .snil, .snil, .snil, .snil] [(0,4,(.s 128))]),im 130 14,iq 131 (.bin .add (.s 130) (.c (ofL [123,123,101,110,100,125,125]))),iq 132 (.call 7 [.s 129, .s 131]),im 133 12,iq 134 (.eq (.one .i) false (.s 132) (.s 133)),im 8 134])
 .ret))))))))))))}
theorem Jr9 :compFn Tryz.prog Tryz.f3 [[0,1,2,3],[0,1,2,3,9],[0,1,2,3,9,10],[0,1,2,3,9,10],[0,1,2,3,9,10],[0,2,9,12,13,14],[0,1,2,3,9,11,12,13,14,15],[0,1,2,3,9,11,12,13,14,15],[0,1,2,3,9,11,12,13,14,15],[0,1,2,3,9,11,12,13,14,15,16],[0,1,2,3,9,11,12,13,14,15,16],[2,9,12,14],[9,12,14]]=some JC:=by kernel_rfl
def KE :Eva.Fn:={ntmps:=80,res:=[.s 0],body:=
 (.seq
 (.reg [iq 0 (.mv (.c (.bool false)))])
 (.seq
 (.reg [iq 17 (.bsl 1 1 [(ofL [])] [(0,1,(.c (ofL [97])))]),iq 18 (.build [(.int .i64 0),(ofL []), .snil, .snil] [(0,1,(.c (.int .i64 2)))]),iq 19 (.bsl 4 1 [(.int .i64 0),(ofL []), .snil, .snil] [(0,4,(.s 18))]),iq 20 (.build [(.int .i64 0),(ofL []), .snil, .snil] [(0,1,(.c (.int .i64 6))),(3,1,(.s 19))]),iq 21 (.bsl 4 1 [(.int .i64 0),(ofL []), .snil, .snil] [(0,4,(.s 20))]),iq 22 (.build [(.int .i64 0),(ofL []), .snil, .snil] [(0,1,(.c (.int .i64 7))),(2,1,(.s 17)),(3,1,(.s 21))]),iq 23 (.build [(.int .i64 0),(ofL []), .snil, .snil, .snil, .snil] [(0,4,(.s 22))]),iq 1 (.alloc [(.int .i64 0),(ofL []), .snil, .snil, .snil, .snil]),iz (.store 6 (.s 1) (.s 23))])
 (.seq
 (.reg [iq 25 (.loadn 6 (.s 1)),iq 26 (.call 8 [.s 25]),im 24 26,ie 27 0 24,ie 28 1 24,ie 29 2 24,iq 4 (.alloc [(.int .i64 0),(ofL []), .snil, .snil, .snil, .snil]),im 2 27,im 3 28,iz (.store 6 (.s 4) (.s 29))])
 (.seq
 (.reg [iq 31 (.call 9 [(.c (ofL [123,123,105,102,32,46,97,125,125,123,123,46,97,125,125,123,123,101,110,100,125,125]))]),im 30 31,ie 32 0 30,ie 33 1 30,ie 34 2 30,im 5 32,im 6 33,im 7 34])
 (.seq
 (.reg [iq 36 (.call 9 [(.c (ofL [123,123,46,97,125,125]))]),im 35 36,ie 37 0 35,ie 38 1 35,ie 39 2 35,im 8 37,im 9 38,im 10 39])
 (.seqj [2,5,8]
 (.seq
 (.reg [im 40 2,iq 41 (.eq (.one .p) false (.s 40) (.c .pnil)),im 42 41,ig 43 42 false (.mv (.s 7)),ig 44 42 false (.eq (.one .i) true (.s 43) (.c (.int .i64 0))),iq 45 (.pick (.s 42) (.c (.bool true)) (.s 44)),im 46 45,ig 47 46 false (.mv (.s 10)),ig 48 46 false (.eq (.one .i) true (.s 47) (.c (.int .i64 0))),iq 49 (.pick (.s 46) (.c (.bool true)) (.s 48))])
 (.cond (.s 49)
 (.seq
 (.reg [iq 0 (.mv (.c (.bool false)))])
 .ret)
 .skip))
 (.seq
 (.drw [im 51 2,im 52 2,iq 53 (.call 11 [.s 52]),im 54 5,iq 55 (.iaddrS 2 (.s 54) (.c (.int .i64 0))),ia 56 1 55,il 57 56,⟨(some 58),(.call 10 [.s 51,(.c .snil), .s 53, .s 57]),none,(some [])⟩,im 50 58,ie 59 0 50,ie 60 1 50,ie 61 2 50,im 11 59,im 12 60,im 13 61] [])
 (.seq
 (.drw [im 63 2,im 64 2,iq 65 (.call 11 [.s 64]),im 66 8,iq 67 (.iaddrS 2 (.s 66) (.c (.int .i64 0))),ia 68 1 67,il 69 68,⟨(some 70),(.call 10 [.s 63,(.c .snil), .s 65, .s 69]),none,(some [])⟩,im 62 70,ie 71 0 62,ie 72 1 62,ie 73 2 62,im 14 71,im 15 72,im 16 73] [])
 (.seq
 (.reg [im 74 13,iq 75 (.eq (.one .i) false (.s 74) (.c (.int .i64 0))),im 76 75,ig 77 76 true (.mv (.s 16)),ig 78 76 true (.eq (.one .i) false (.s 77) (.c (.int .i64 17))),iq 79 (.pick (.s 76) (.s 78) (.c (.bool false))),im 0 79])
 .ret)))))))))}
theorem Jsa :compFn Tryz.prog Tryz.f5 [[2,5,8]]=some KE:=by kernel_rfl
def Ks :Eva.Fn:={ntmps:=29,res:=[.s 2, .s 3,(.cn 4 6)],body:=
 (.seq
 (.reg [iq 1 (.box (.s 0)),iq 2 (.mv (.c .pnil)),iq 3 (.mv (.c .pnil)),iq 4 (.alloc [(.int .i64 0),(ofL []), .snil, .snil, .snil, .snil])])
 (.seq
 (.reg [iq 10 (.loadn 6 (.s 1)),iq 11 (.call 12 [.s 10]),im 9 11,ie 12 0 9,ie 13 1 9,im 5 12,im 6 13])
 (.seq
 (.reg [iq 15 (.loadn 6 (.s 1)),iq 16 (.call 13 [.s 15]),im 14 16,ie 17 0 14,ie 18 1 14,im 7 17,im 8 18])
 (.seqj [1,4,5,7]
 (.seq
 (.reg [im 19 6,iq 20 (.eq (.one .i) true (.s 19) (.c (.int .i64 0))),im 21 20,ig 22 21 false (.mv (.s 8)),ig 23 21 false (.eq (.one .i) true (.s 22) (.c (.int .i64 0))),iq 24 (.pick (.s 21) (.c (.bool true)) (.s 23))])
 (.cond (.s 24)
 (.seq
 (.drw [iq 25 (.loadn 6 (.s 1)),iq 2 (.mv (.c .pnil)),iq 3 (.mv (.c .pnil)),iz (.store 6 (.s 4) (.s 25))] [])
 .ret)
 .skip))
 (.seq
 (.drw [im 26 5,im 27 7,iq 28 (.loadn 6 (.s 1)),im 2 26,im 3 27,iz (.store 6 (.s 4) (.s 28))] [])
 .ret)))))}
theorem Jsb :compFn Tryz.prog Tryz.f8 [[1,4,5,7]]=some Ks:=by kernel_rfl
def YC :Eva.Fn:={ntmps:=115,res:=[.s 2, .s 3],body:=
 (.seq
 (.reg [iq 1 (.box (.s 0)),iq 2 (.mv (.c .pnil)),ik 3 0])
 (.seqj [1]
 (.seq
 (.reg [iq 19 (.loadn 6 (.s 1)),iq 20 (.call 18 [.s 19]),im 4 20])
 (.seq
 (.reg [im 21 4,iq 22 (.eq (.one .i) true (.s 21) (.c (.int .i64 0)))])
 (.cond (.s 22)
 (.seq
 (.reg [im 23 4,iq 2 (.mv (.c .pnil)),im 3 23])
 .ret)
 .skip)))
 (.seq
 (.reg [⟨(some 24), .mkmap,none,none⟩,⟨(some 25), .mkmap,none,none⟩,⟨(some 26), .mkmap,none,none⟩,iq 27 (.build [.snil, .mnil, .mnil,(.int .i64 0), .mnil] [(1,1,(.s 24)),(2,1,(.s 25)),(4,1,(.s 26))]),iq 28 (.box (.s 27)),im 5 28])
 (.seqj [1,5]
 (.seq
 (.reg [ia 29 4 1,il 30 29,iq 31 (.lenL (.s 30)),ik 32 0])
 (.block 0
 (.loop [1,5,30,31,32]
 (.seq
 (.reg [iq 33 (.bin .lss (.s 32) (.s 31))])
 (.seqj [1,5,30,31,32]
 (.cond (.s 33)
 .skip
 (.exit 0))
 (.seqj [1,5,30,31,32]
 (.block 1
 (.seq
 (.reg [iq 34 (.iaddrS 5 (.s 30) (.s 32)),iq 35 (.loadn 5 (.s 34)),iq 7 (.alloc [(ofL []),(.int .i64 0),(ofL []), .snil, .snil]),iz (.store 5 (.s 7) (.s 35))])
 (.seq
 (.reg [im 37 5,ia 38 1 7,iq 39 (.loadn 4 (.s 38)),iq 40 (.call 19 [.s 37, .s 39]),im 36 40,ie 41 0 36,ie 42 1 36,im 8 41,im 9 42])
 (.seqj [1,5,7,8,30,31,32]
 (.seq
 (.reg [im 43 9,iq 44 (.eq (.one .i) true (.s 43) (.c (.int .i64 0)))])
 (.cond (.s 44)
 (.seq
 (.reg [im 45 9,iq 2 (.mv (.c .pnil)),im 3 45])
 .ret)
 .skip))
 (.drw [im 46 5,iq 47 (.nilck (.s 46)),ia 48 2 47,il 49 48,ia 50 0 7,il 51 50,im 52 8,iz (.mupd (.one .s) (.s 49) (.s 51) (.s 52))] [])))))
 (.reg [iq 53 (.bin .add (.s 32) (.c (.int .i64 1))),im 32 53])))))))
 (.seq
 (.reg [im 55 5,ia 56 0 1,iq 57 (.loadn 4 (.s 56)),iq 58 (.call 19 [.s 55, .s 57]),im 54 58,ie 59 0 54,ie 60 1 54,im 10 59,im 11 60])
 (.seqj [1,5,10]
 (.seq
 (.reg [im 61 11,iq 62 (.eq (.one .i) true (.s 61) (.c (.int .i64 0)))])
 (.cond (.s 62)
 (.seq
 (.reg [im 63 11,iq 2 (.mv (.c .pnil)),im 3 63])
 .ret)
 .skip))
 (.seq
 (.reg [im 64 5,im 65 10,iq 66 (.nilck (.s 64)),ia 67 3 66,iz (.store 1 (.s 67) (.s 65))])
 (.seqj [5]
 (.seq
 (.reg [ia 68 5 1,il 69 68,iq 70 (.lenL (.s 69)),ik 71 0])
 (.block 2
 (.loop [5,69,70,71]
 (.seq
 (.reg [iq 72 (.bin .lss (.s 71) (.s 70))])
 (.seqj [5,69,70,71]
 (.cond (.s 72)
 .skip
 (.exit 2))
 (.seqj [5,69,70,71]
 (.block 3
 (.seq
 (.reg [iq 73 (.iaddrS 6 (.s 69) (.s 71)),iq 74 (.loadn 6 (.s 73)),iq 13 (.alloc [(ofL []), .snil,(.int .i64 0),(ofL []), .snil, .snil]),iz (.store 6 (.s 13) (.s 74))])
 (.seq
 (.reg [ia 75 1 13,il 76 75,iq 77 (.lenL (.s 76)),iq 78 (.bin .add (.s 77) (.c (.int .i64 1))),iq 79 (.mksl 1 [(.int .i64 0)] (.c (.int .i64 0)) (.s 78)),im 14 79])
 (.seqj [5,13,14,69,70,71]
 (.seq
 (.drw [ia 80 1 13,il 81 80,iq 82 (.call 20 [.s 81]),ia 83 2 13,iq 84 (.loadn 4 (.s 83)),iq 85 (.bsl 4 1 [(.int .i64 0),(ofL []), .snil, .snil] [(0,4,(.s 84))]),iq 86 (.app 4 (.s 82) (.s 85)),iq 87 (.lenL (.s 86)),ik 88 0] [])
 (.block 4
 (.loop [5,13,14,69,70,71,86,87,88]
 (.seq
 (.reg [iq 89 (.bin .lss (.s 88) (.s 87))])
 (.seqj [5,13,14,69,70,71,86,87,88]
 (.cond (.s 89)
 .skip
 (.exit 4))
 (.seqj [5,13,14,69,70,71,86,87,88]
 (.block 5
 (.seq
 (.reg [iq 90 (.iaddrS 4 (.s 86) (.s 88)),iq 91 (.loadn 4 (.s 90)),iq 16 (.alloc [(.int .i64 0),(ofL []), .snil, .snil]),iz (.store 4 (.s 16) (.s 91))])
 (.seq
 (.reg [im 93 5,iq 94 (.loadn 4 (.s 16)),iq 95 (.call 19 [.s 93, .s 94]),im 92 95,ie 96 0 92,ie 97 1 92,im 17 96,im 18 97])
 (.seqj [5,13,14,17,69,70,71,86,87,88]
 (.seq
 (.reg [im 98 18,iq 99 (.eq (.one .i) true (.s 98) (.c (.int .i64 0)))])
 (.cond (.s 99)
 (.seq
 (.reg [im 100 18,iq 2 (.mv (.c .pnil)),im 3 100])
 .ret)
 .skip))
 (.reg [im 101 14,im 102 17,iq 103 (.bsl 1 1 [(.int .i64 0)] [(0,1,(.s 102))]),iq 104 (.app 1 (.s 101) (.s 103)),im 14 104])))))
 (.reg [iq 105 (.bin .add (.s 88) (.c (.int .i64 1))),im 88 105])))))))
 (.drw [im 106 5,iq 107 (.nilck (.s 106)),ia 108 4 107,il 109 108,ia 110 0 13,il 111 110,im 112 14,iz (.mupd (.one .s) (.s 109) (.s 111) (.s 112))] [])))))
 (.reg [iq 113 (.bin .add (.s 71) (.c (.int .i64 1))),im 71 113])))))))
 (.seq
 (.reg [im 114 5,im 2 114,ik 3 0])
 .ret)))))))))}
theorem Jo7 :compFn Tryz.prog Tryz.f12 [[1],[1,5],[1,5,30,31,32],[1,5,30,31,32],[1,5,30,31,32],[1,5,7,8,30,31,32],[1,5,10],[5],[5,69,70,71],[5,69,70,71],[5,69,70,71],[5,13,14,69,70,71],[5,13,14,69,70,71,86,87,88],[5,13,14,69,70,71,86,87,88],[5,13,14,69,70,71,86,87,88],[5,13,14,17,69,70,71,86,87,88]]=some YC:=by kernel_rfl
def QT :Eva.Fn:={ntmps:=79,res:=[.s 2],body:=
 (.seq
 (.reg [iq 1 (.box (.s 0)),ik 2 0])
 (.seqj [1]
 (.seq
 (.reg [ia 12 4 1,il 13 12,iq 14 (.lenL (.s 13)),iq 15 (.bin .gtr (.s 14) (.c (.int .i64 12))),im 16 15,ig 17 16 false (.faddr 5 (.s 1)),ig 18 16 false (.load1 (.s 17)),ig 19 16 false (.lenL (.s 18)),ig 20 16 false (.bin .gtr (.s 19) (.c (.int .i64 12))),iq 21 (.pick (.s 16) (.c (.bool true)) (.s 20))])
 (.cond (.s 21)
 (.seq
 (.reg [ik 2 3])
 .ret)
 .skip))
 (.seqj [1]
 (.seq
 (.reg [ia 22 4 1,il 23 22,iq 24 (.call 38 [.s 23]),im 3 24])
 (.seq
 (.reg [im 25 3,iq 26 (.eq (.one .i) true (.s 25) (.c (.int .i64 0)))])
 (.cond (.s 26)
 (.seq
 (.reg [im 27 3,im 2 27])
 .ret)
 .skip)))
 (.seq
 (.reg [iq 28 (.loadn 6 (.s 1)),iq 29 (.call 39 [.s 28]),iq 30 (.build [.mnil,(.int .i64 0)] [(0,1,(.s 29))]),iq 31 (.box (.s 30)),im 4 31])
 (.seqj [1,4]
 (.seq
 (.reg [ia 32 4 1,il 33 32,iq 34 (.lenL (.s 33)),ik 35 0])
 (.block 0
 (.loop [1,4,33,34,35]
 (.seq
 (.reg [iq 36 (.bin .lss (.s 35) (.s 34))])
 (.seqj [1,4,33,34,35]
 (.cond (.s 36)
 .skip
 (.exit 0))
 (.seqj [1,4,33,34,35]
 (.block 1
 (.seq
 (.reg [iq 37 (.iaddrS 5 (.s 33) (.s 35)),iq 38 (.loadn 5 (.s 37)),iq 6 (.alloc [(ofL []),(.int .i64 0),(ofL []), .snil, .snil]),iz (.store 5 (.s 6) (.s 38))])
 (.seq
 (.reg [im 39 4,ia 40 1 6,iq 41 (.loadn 4 (.s 40)),iq 42 (.call 40 [.s 39, .s 41,(.c (.int .i64 1))]),im 7 42])
 (.seq
 (.reg [im 43 7,iq 44 (.eq (.one .i) true (.s 43) (.c (.int .i64 0)))])
 (.cond (.s 44)
 (.seq
 (.reg [im 45 7,im 2 45])
 .ret)
 .skip)))))
 (.reg [iq 46 (.bin .add (.s 35) (.c (.int .i64 1))),im 35 46])))))))
 (.seqj [1,4]
 (.seq
 (.reg [im 47 4,ia 48 0 1,iq 49 (.loadn 4 (.s 48)),iq 50 (.call 40 [.s 47, .s 49,(.c (.int .i64 1))]),im 8 50])
 (.seq
 (.reg [im 51 8,iq 52 (.eq (.one .i) true (.s 51) (.c (.int .i64 0)))])
 (.cond (.s 52)
 (.seq
 (.reg [im 53 8,im 2 53])
 .ret)
 .skip)))
 (.seqj [1,4]
 (.seq
 (.reg [im 54 4,ia 55 5 1,il 56 55,iq 57 (.call 41 [.s 54, .s 56]),im 9 57])
 (.seq
 (.reg [im 58 9,iq 59 (.eq (.one .i) true (.s 58) (.c (.int .i64 0)))])
 (.cond (.s 59)
 (.seq
 (.reg [im 60 9,im 2 60])
 .ret)
 .skip)))
 (.seqj [1,4]
 (.seq
 (.reg [ia 61 4 1,il 62 61,iq 63 (.lenL (.s 62)),ik 64 0])
 (.block 2
 (.loop [1,4,62,63,64]
 (.seq
 (.reg [iq 65 (.bin .lss (.s 64) (.s 63))])
 (.seqj [1,4,62,63,64]
 (.cond (.s 65)
 .skip
 (.exit 2))
 (.seqj [1,4,62,63,64]
 (.block 3
 (.seq
 (.reg [iq 66 (.iaddrS 5 (.s 62) (.s 64)),iq 67 (.loadn 5 (.s 66)),iq 11 (.alloc [(ofL []),(.int .i64 0),(ofL []), .snil, .snil]),iz (.store 5 (.s 11) (.s 67))])
 (.seq
 (.reg [iq 68 (.loadn 6 (.s 1)),ia 69 1 11,iq 70 (.loadn 4 (.s 69)),iq 71 (.call 42 [.s 68, .s 70]),iq 72 (.not (.s 71))])
 (.cond (.s 72)
 (.seq
 (.reg [ik 2 14])
 .ret)
 .skip))))
 (.reg [iq 73 (.bin .add (.s 64) (.c (.int .i64 1))),im 64 73])))))))
 (.seqj []
 (.seq
 (.reg [iq 74 (.loadn 6 (.s 1)),iq 75 (.call 44 [.s 74]),im 76 4,iq 77 (.mkfn 45 [.s 76] []),iq 78 (.call 43 [.s 75, .s 77])])
 (.cond (.s 78)
 (.seq
 (.reg [ik 2 17])
 .ret)
 .skip))
 (.seq
 (.reg [ik 2 0])
 .ret))))))))))}
theorem Jo8 :compFn Tryz.prog Tryz.f18 [[1],[1],[1,4],[1,4,33,34,35],[1,4,33,34,35],[1,4,33,34,35],[1,4],[1,4],[1,4],[1,4,62,63,64],[1,4,62,63,64],[1,4,62,63,64],[]]=some QT:=by kernel_rfl
def QU :Eva.Fn:={ntmps:=39,res:=[.s 2],body:=
 (.seq
 (.reg [ik 2 0])
 (.seqj []
 (.seq
 (.reg [im 5 0,iq 6 (.lenL (.s 5)),ik 7 0])
 (.block 0
 (.loop [0,5,6,7]
 (.seq
 (.reg [iq 8 (.bin .lss (.s 7) (.s 6))])
 (.seqj [0,5,6,7]
 (.cond (.s 8)
 .skip
 (.exit 0))
 (.seqj [0,5,6,7]
 (.block 1
 (.seq
 (.reg [im 9 7,iq 10 (.iaddrS 5 (.s 5) (.s 7)),iq 11 (.loadn 5 (.s 10)),iq 4 (.alloc [(ofL []),(.int .i64 0),(ofL []), .snil, .snil]),im 3 9,iz (.store 5 (.s 4) (.s 11))])
 (.block 2
 (.seq
 (.reg [ia 13 0 4,il 14 13,iq 15 (.call 72 [.s 14]),iq 16 (.not (.s 15)),im 17 16,ig 18 17 false (.faddr 0 (.s 4)),ig 19 17 false (.load1 (.s 18)),ig 20 17 false (.bin .add (.c (ofL [32])) (.s 19)),ig 21 17 false (.bin .add (.s 20) (.c (ofL [32]))),ig 22 17 false (.call 73 [(.c (ofL [32,66,111,111,108,32,73,110,116,32,84,101,120,116,32,76,105,115,116,32,77,97,112,32,79,112,116,32,85,110,105,111,110,32])), .s 21]),iq 23 (.pick (.s 17) (.c (.bool true)) (.s 22)),im 12 23])
 (.cond (.s 12)
 (.seq
 (.reg [ik 2 15])
 .ret)
 (.seq
 (.drw [im 25 3,iq 26 (.bin .gtr (.s 25) (.c (.int .i64 0))),im 27 26,ig 28 27 true (.mv (.s 0)),ig 29 27 true (.mv (.s 3)),ig 30 27 true (.bin .sub (.s 29) (.c (.int .i64 1))),ig 31 27 true (.iaddrS 5 (.s 28) (.s 30)),ig 32 27 true (.faddr 0 (.s 31)),ig 33 27 true (.load1 (.s 32)),ig 34 27 true (.faddr 0 (.s 4)),ig 35 27 true (.load1 (.s 34)),ig 36 27 true (.bin .geq (.s 33) (.s 35)),iq 37 (.pick (.s 27) (.s 36) (.c (.bool false))),im 24 37] [])
 (.cond (.s 24)
 (.seq
 (.reg [ik 2 6])
 .ret)
 .skip)))))))
 (.reg [iq 38 (.bin .add (.s 7) (.c (.int .i64 1))),im 7 38])))))))
 (.seq
 (.reg [ik 2 0])
 .ret)))}
theorem Jo9 :compFn Tryz.prog Tryz.f38 [[],[0,5,6,7],[0,5,6,7],[0,5,6,7]]=some QU:=by kernel_rfl
def Q7 :Eva.Fn:={ntmps:=23,res:=[.s 2],body:=
 (.seq
 (.reg [iq 2 (.mv (.c (.bool false)))])
 (.seq
 (.reg [im 3 0,iq 4 (.eq (.one .s) true (.s 3) (.c (ofL []))),im 5 4,ig 6 5 true (.mv (.s 0)),ig 7 5 true (.lenS (.s 6)),ig 8 5 true (.bin .leq (.s 7) (.c (.int .i64 16))),iq 9 (.pick (.s 5) (.s 8) (.c (.bool false))),im 10 9,ig 11 10 true (.mv (.s 0)),ig 12 10 true (.idxS (.s 11) (.c (.int .i64 0))),ig 13 10 true (.call 106 [.s 12]),ig 14 10 true (.not (.s 13)),iq 15 (.pick (.s 10) (.s 14) (.c (.bool false))),im 16 15,ig 17 16 true (.mv (.s 0)),ig 18 16 true (.call 107 [.s 17]),ig 19 16 true (.mv (.s 0)),ig 20 16 true (.lenS (.s 19)),ig 21 16 true (.eq (.one .i) false (.s 18) (.s 20)),iq 22 (.pick (.s 16) (.s 21) (.c (.bool false))),im 2 22])
 .ret))}
theorem Jpa :compFn Tryz.prog Tryz.f72 []=some Q7:=by kernel_rfl
def Q8 :Eva.Fn:={ntmps:=9,res:=[.s 2],body:=
 (.seq
 (.reg [iq 2 (.mv (.c (.bool false)))])
 (.seq
 (.reg [im 3 0,iq 4 (.bin .geq (.s 3) (.c (.int .u8 48))),im 5 4,ig 6 5 true (.mv (.s 0)),ig 7 5 true (.bin .leq (.s 6) (.c (.int .u8 57))),iq 8 (.pick (.s 5) (.s 7) (.c (.bool false))),im 2 8])
 .ret))}
theorem Jm9 :compFn Tryz.prog Tryz.f106 []=some Q8:=by kernel_rfl
def YD :Eva.Fn:={ntmps:=5,res:=[.s 2],body:=
 (.seq
 (.reg [ik 2 0])
 (.seq
 (.reg [im 3 0,iq 4 (.call 127 [.s 3,(.c (.fn 128 [] []))]),im 2 4])
 .ret))}
theorem Jna :compFn Tryz.prog Tryz.f107 []=some YD:=by kernel_rfl
def Q9 :Eva.Fn:={ntmps:=20,res:=[.s 4],body:=
 (.seq
 (.reg [ik 4 0])
 (.seqj [0]
 (.seq
 (.reg [im 6 0,iq 7 (.rngS (.s 6))])
 (.block 0
 (.loop [0,1,7]
 (.seq
 (.reg [iq 8 (.nextS (.s 7)),ie 9 0 8])
 (.seqj [0,1,7,8]
 (.cond (.s 9)
 .skip
 (.exit 0))
 (.block 1
 (.seq
 (.reg [ie 10 1 8,im 5 10])
 (.seq
 (.reg [im 11 1,im 12 0,im 13 5,iq 14 (.idxS (.s 12) (.s 13)),iq 15 (.callv (.s 11) [.s 14]),iq 16 (.not (.s 15))])
 (.cond (.s 16)
 (.seq
 (.reg [im 17 5,im 4 17])
 .ret)
 .skip)))))))))
 (.seq
 (.reg [im 18 0,iq 19 (.lenS (.s 18)),im 4 19])
 .ret)))}
theorem Jnb :compFn Tryz.prog Tryz.f127 [[0],[0,1,7],[0,1,7,8]]=some Q9:=by kernel_rfl
def Ya :Eva.Fn:={ntmps:=9,res:=[.s 2],body:=
 (.seq
 (.reg [iq 2 (.mv (.c (.bool false)))])
 (.seq
 (.reg [im 3 0,iq 4 (.call 129 [.s 3]),im 5 4,ig 6 5 false (.mv (.s 0)),ig 7 5 false (.call 106 [.s 6]),iq 8 (.pick (.s 5) (.c (.bool true)) (.s 7)),im 2 8])
 .ret))}
theorem Jnc :compFn Tryz.prog Tryz.f128 []=some Ya:=by kernel_rfl
def QV :Eva.Fn:={ntmps:=15,res:=[.s 2],body:=
 (.seq
 (.reg [iq 2 (.mv (.c (.bool false)))])
 (.seq
 (.reg [im 3 0,iq 4 (.eq (.one .i) false (.s 3) (.c (.int .u8 95))),im 5 4,ig 6 5 false (.mv (.s 0)),ig 7 5 false (.bin .or (.s 6) (.c (.int .u8 32))),ig 8 5 false (.bin .geq (.s 7) (.c (.int .u8 97))),ig 9 5 false (.mv (.s 8)),ig 10 9 true (.mv (.s 0)),ig 11 9 true (.bin .or (.s 10) (.c (.int .u8 32))),ig 12 9 true (.bin .leq (.s 11) (.c (.int .u8 122))),ig 13 5 false (.pick (.s 9) (.s 12) (.c (.bool false))),iq 14 (.pick (.s 5) (.c (.bool true)) (.s 13)),im 2 14])
 .ret))}
theorem Jnd :compFn Tryz.prog Tryz.f129 []=some QV:=by kernel_rfl
def QW :Eva.Fn:={ntmps:=21,res:=[.s 2],body:=
 (.seq
 (.reg [iq 1 (.box (.s 0)),iq 2 (.mv (.c .mnil))])
 (.seq
 (.reg [⟨(some 6), .mkmap,none,none⟩,im 3 6])
 (.seqj [3]
 (.seq
 (.reg [ia 7 4 1,il 8 7,iq 9 (.lenL (.s 8)),ik 10 0])
 (.block 0
 (.loop [3,8,9,10]
 (.seq
 (.reg [iq 11 (.bin .lss (.s 10) (.s 9))])
 (.seqj [3,8,9,10]
 (.cond (.s 11)
 .skip
 (.exit 0))
 (.seqj [3,8,9,10]
 (.block 1
 (.seq
 (.reg [iq 12 (.iaddrS 5 (.s 8) (.s 10)),iq 13 (.loadn 5 (.s 12)),iq 5 (.alloc [(ofL []),(.int .i64 0),(ofL []), .snil, .snil]),iz (.store 5 (.s 5) (.s 13))])
 (.reg [im 14 3,ia 15 0 5,il 16 15,ia 17 1 5,iq 18 (.loadn 4 (.s 17)),iz (.mupd (.one .s) (.s 14) (.s 16) (.s 18))])))
 (.reg [iq 19 (.bin .add (.s 10) (.c (.int .i64 1))),im 10 19])))))))
 (.seq
 (.reg [im 20 3,im 2 20])
 .ret))))}
theorem Jpb :compFn Tryz.prog Tryz.f39 [[3],[3,8,9,10],[3,8,9,10],[3,8,9,10]]=some QW:=by kernel_rfl
def KF :Eva.Fn:={ntmps:=113,res:=[.s 6],body:=
 (.seq
 (.reg [iq 4 (.box (.s 1)),ik 6 0])
 (.seq
 (.reg [im 14 0,iq 15 (.nilck (.s 14)),ia 16 1 15,il 17 16,iq 18 (.bin .add (.s 17) (.c (.int .i64 1))),iq 19 (.nilck (.s 14)),ia 20 1 19,iz (.store 1 (.s 20) (.s 18))])
 (.seq
 (.drw [im 22 0,iq 23 (.nilck (.s 22)),ia 24 0 23,il 25 24,ia 26 1 4,il 27 26,iq 28 (.lookup (.one .s) (.agg [(.int .i64 0),(ofL []), .snil, .snil]) true (.s 25) (.s 27)),im 21 28,ie 29 0 21,ie 30 1 21,iq 7 (.alloc [(.int .i64 0),(ofL []), .snil, .snil]),iz (.store 4 (.s 7) (.s 29)),im 8 30] [])
 (.seq
 (.reg [ia 31 0 4,il 32 31,iq 33 (.eq (.one .i) false (.s 32) (.c (.int .i64 7))),im 34 33,ig 35 34 false (.faddr 0 (.s 4)),ig 36 34 false (.load1 (.s 35)),ig 37 34 false (.eq (.one .i) false (.s 36) (.c (.int .i64 8))),iq 38 (.pick (.s 34) (.c (.bool true)) (.s 37)),im 9 38])
 (.seqj [0,2,4]
 (.block 0
 (.seq
 (.reg [im 40 0,iq 41 (.nilck (.s 40)),ia 42 1 41,il 43 42,iq 44 (.bin .gtr (.s 43) (.c (.int .i64 400))),im 39 44])
 (.cond (.s 39)
 (.seq
 (.reg [ik 6 3])
 .ret)
 (.seq
 (.reg [im 46 2,iq 47 (.bin .gtr (.s 46) (.c (.int .i64 12))),im 45 47])
 (.cond (.s 45)
 (.seq
 (.reg [ik 6 13])
 .ret)
 (.seq
 (.reg [ia 49 0 4,il 50 49,iq 51 (.bin .lss (.s 50) (.c (.int .i64 1))),im 52 51,ig 53 52 false (.faddr 0 (.s 4)),ig 54 52 false (.load1 (.s 53)),ig 55 52 false (.bin .gtr (.s 54) (.c (.int .i64 9))),iq 56 (.pick (.s 52) (.c (.bool true)) (.s 55)),im 48 56])
 (.cond (.s 48)
 (.seq
 (.reg [ik 6 1])
 .ret)
 (.seq
 (.drw [ia 58 3 4,il 59 58,iq 60 (.lenL (.s 59)),iq 61 (.loadn 4 (.s 4)),⟨(some 62),(.call 74 [.s 61]),none,(some [58])⟩,iq 63 (.eq (.one .i) true (.s 60) (.s 62)),im 64 63,ig 65 64 false (.faddr 1 (.s 4)),ig 66 64 false (.load1 (.s 65)),ig 67 64 false (.eq (.one .s) true (.s 66) (.c (ofL []))),ig 68 64 false (.mv (.s 67)),ig 69 68 true (.faddr 0 (.s 4)),ig 70 68 true (.load1 (.s 69)),ig 71 68 true (.eq (.one .i) true (.s 70) (.c (.int .i64 9))),ig 72 64 false (.pick (.s 68) (.s 71) (.c (.bool false))),iq 73 (.pick (.s 64) (.c (.bool true)) (.s 72)),im 74 73,ig 75 74 false (.faddr 2 (.s 4)),ig 76 74 false (.load1 (.s 75)),ig 77 74 false (.lenL (.s 76)),ig 78 74 false (.bin .gtr (.s 77) (.c (.int .i64 0))),ig 79 74 false (.mv (.s 78)),ig 80 79 true (.mv (.s 9)),ig 81 79 true (.not (.s 80)),ig 82 74 false (.pick (.s 79) (.s 81) (.c (.bool false))),iq 83 (.pick (.s 74) (.c (.bool true)) (.s 82)),im 57 83] [])
 (.cond (.s 57)
 (.seq
 (.reg [ik 6 12])
 .ret)
 (.seq
 (.reg [ia 85 0 4,il 86 85,iq 87 (.eq (.one .i) false (.s 86) (.c (.int .i64 9))),im 88 87,ig 89 88 true (.mv (.s 8)),ig 90 88 true (.not (.s 89)),iq 91 (.pick (.s 88) (.s 90) (.c (.bool false))),im 84 91])
 (.cond (.s 84)
 (.seq
 (.reg [ik 6 15])
 .ret)
 .skip)))))))))))
 (.seqj [0,2,4]
 (.seq
 (.reg [iq 92 (.loadn 4 (.s 4)),iq 93 (.call 75 [.s 92]),im 10 93])
 (.seq
 (.reg [im 94 10,iq 95 (.eq (.one .i) true (.s 94) (.c (.int .i64 0)))])
 (.cond (.s 95)
 (.seq
 (.reg [im 96 10,im 6 96])
 .ret)
 .skip)))
 (.seqj []
 (.seq
 (.reg [ia 97 3 4,il 98 97,iq 99 (.lenL (.s 98)),ik 100 0])
 (.block 1
 (.loop [0,2,98,99,100]
 (.seq
 (.reg [iq 101 (.bin .lss (.s 100) (.s 99))])
 (.seqj [0,2,98,99,100]
 (.cond (.s 101)
 .skip
 (.exit 1))
 (.seqj [0,2,98,99,100]
 (.block 2
 (.seq
 (.reg [iq 102 (.iaddrS 4 (.s 98) (.s 100)),iq 103 (.loadn 4 (.s 102)),iq 12 (.alloc [(.int .i64 0),(ofL []), .snil, .snil]),iz (.store 4 (.s 12) (.s 103))])
 (.seq
 (.reg [im 104 0,iq 105 (.loadn 4 (.s 12)),im 106 2,iq 107 (.bin .add (.s 106) (.c (.int .i64 1))),iq 108 (.call 40 [.s 104, .s 105, .s 107]),im 13 108])
 (.seq
 (.reg [im 109 13,iq 110 (.eq (.one .i) true (.s 109) (.c (.int .i64 0)))])
 (.cond (.s 110)
 (.seq
 (.reg [im 111 13,im 6 111])
 .ret)
 .skip)))))
 (.reg [iq 112 (.bin .add (.s 100) (.c (.int .i64 1))),im 100 112])))))))
 (.seq
 (.reg [ik 6 0])
 .ret))))))))}
theorem Jpc :compFn Tryz.prog Tryz.f40 [[0,2,4],[0,2,4],[],[0,2,98,99,100],[0,2,98,99,100],[0,2,98,99,100]]=some KF:=by kernel_rfl
def Yb :Eva.Fn:={ntmps:=15,res:=[.s 2],body:=
 (.seq
 (.reg [iq 1 (.box (.s 0)),ik 2 0])
 (.seqj []
 (.seq
 (.reg [ia 3 0 1,il 4 3])
 (.block 0
 (.seqj [1,4,5]
 (.seq
 (.reg [iq 6 (.eq (.one .i) false (.s 4) (.c (.int .i64 4))),im 5 6])
 (.cond (.s 5)
 .skip
 (.seq
 (.reg [iq 7 (.eq (.one .i) false (.s 4) (.c (.int .i64 5))),im 5 7])
 (.cond (.s 5)
 .skip
 (.reg [iq 8 (.eq (.one .i) false (.s 4) (.c (.int .i64 6))),im 5 8])))))
 (.cond (.s 5)
 (.seq
 (.reg [ik 2 1])
 .ret)
 (.seqj [1,9]
 (.seq
 (.reg [iq 10 (.eq (.one .i) false (.s 4) (.c (.int .i64 7))),im 9 10])
 (.cond (.s 9)
 .skip
 (.reg [iq 11 (.eq (.one .i) false (.s 4) (.c (.int .i64 8))),im 9 11])))
 (.cond (.s 9)
 (.seq
 (.reg [ia 12 2 1,il 13 12,iq 14 (.lenL (.s 13)),im 2 14])
 .ret)
 .skip))))))
 (.seq
 (.reg [ik 2 0])
 .ret)))}
theorem Jpd :compFn Tryz.prog Tryz.f74 [[],[1,4,5],[1,9]]=some Yb:=by kernel_rfl
def QM :Eva.Fn:={ntmps:=44,res:=[.s 2],body:=
 (.seq
 (.reg [iq 1 (.box (.s 0)),ik 2 0])
 (.seqj [1]
 (.seq
 (.reg [ia 5 2 1,il 6 5,iq 7 (.lenL (.s 6)),iq 8 (.bin .gtr (.s 7) (.c (.int .i64 8)))])
 (.cond (.s 8)
 (.seq
 (.reg [ik 2 3])
 .ret)
 .skip))
 (.seqj [1]
 (.seq
 (.reg [ia 9 2 1,il 10 9,iq 11 (.lenL (.s 10)),ik 12 0])
 (.block 0
 (.loop [1,10,11,12]
 (.seq
 (.reg [iq 13 (.bin .lss (.s 12) (.s 11))])
 (.seqj [1,10,11,12]
 (.cond (.s 13)
 .skip
 (.exit 0))
 (.seqj [1,10,11,12]
 (.block 1
 (.seq
 (.reg [im 14 12,iq 15 (.iaddrS 1 (.s 10) (.s 12)),il 16 15,im 3 14,im 4 16])
 (.block 2
 (.seq
 (.reg [im 18 4,iq 19 (.call 72 [.s 18]),iq 20 (.not (.s 19)),im 17 20])
 (.cond (.s 17)
 (.seq
 (.reg [ik 2 15])
 .ret)
 (.seq
 (.reg [im 22 3,iq 23 (.bin .gtr (.s 22) (.c (.int .i64 0))),im 24 23,ig 25 24 true (.faddr 2 (.s 1)),ig 26 24 true (.load1 (.s 25)),ig 27 24 true (.mv (.s 3)),ig 28 24 true (.bin .sub (.s 27) (.c (.int .i64 1))),ig 29 24 true (.iaddrS 1 (.s 26) (.s 28)),ig 30 24 true (.load1 (.s 29)),ig 31 24 true (.mv (.s 4)),ig 32 24 true (.bin .geq (.s 30) (.s 31)),iq 33 (.pick (.s 24) (.s 32) (.c (.bool false))),im 21 33])
 (.cond (.s 21)
 (.seq
 (.reg [ik 2 6])
 .ret)
 .skip)))))))
 (.reg [iq 34 (.bin .add (.s 12) (.c (.int .i64 1))),im 12 34])))))))
 (.seqj []
 (.seq
 (.reg [ia 35 0 1,il 36 35,iq 37 (.eq (.one .i) false (.s 36) (.c (.int .i64 8))),im 38 37,ig 39 38 true (.faddr 2 (.s 1)),ig 40 38 true (.load1 (.s 39)),ig 41 38 true (.lenL (.s 40)),ig 42 38 true (.eq (.one .i) false (.s 41) (.c (.int .i64 0))),iq 43 (.pick (.s 38) (.s 42) (.c (.bool false)))])
 (.cond (.s 43)
 (.seq
 (.reg [ik 2 12])
 .ret)
 .skip))
 (.seq
 (.reg [ik 2 0])
 .ret)))))}
theorem Jpe :compFn Tryz.prog Tryz.f75 [[1],[1],[1,10,11,12],[1,10,11,12],[1,10,11,12],[]]=some QM:=by kernel_rfl
def Kt :Eva.Fn:={ntmps:=57,res:=[.s 4],body:=
 (.seq
 (.reg [ik 4 0])
 (.seqj []
 (.seq
 (.reg [im 8 1,iq 9 (.lenL (.s 8)),ik 10 0])
 (.block 0
 (.loop [0,1,8,9,10]
 (.seq
 (.reg [iq 11 (.bin .lss (.s 10) (.s 9))])
 (.seqj [0,1,8,9,10]
 (.cond (.s 11)
 .skip
 (.exit 0))
 (.seqj [0,1,8,9,10]
 (.block 1
 (.seq
 (.reg [im 12 10,iq 13 (.iaddrS 6 (.s 8) (.s 10)),iq 14 (.loadn 6 (.s 13)),iq 6 (.alloc [(ofL []), .snil,(.int .i64 0),(ofL []), .snil, .snil]),im 5 12,iz (.store 6 (.s 6) (.s 14))])
 (.seqj [0,1,6,8,9,10]
 (.block 2
 (.seq
 (.reg [ia 16 0 6,il 17 16,iq 18 (.call 72 [.s 17]),iq 19 (.not (.s 18)),im 20 19,ig 21 20 false (.faddr 0 (.s 6)),ig 22 20 false (.load1 (.s 21)),ig 23 20 false (.call 76 [.s 22]),iq 24 (.pick (.s 20) (.c (.bool true)) (.s 23)),im 15 24])
 (.cond (.s 15)
 (.seq
 (.reg [ik 4 15])
 .ret)
 (.seq
 (.drw [im 26 5,iq 27 (.bin .gtr (.s 26) (.c (.int .i64 0))),im 28 27,ig 29 28 true (.mv (.s 1)),ig 30 28 true (.mv (.s 5)),ig 31 28 true (.bin .sub (.s 30) (.c (.int .i64 1))),ig 32 28 true (.iaddrS 6 (.s 29) (.s 31)),ig 33 28 true (.faddr 0 (.s 32)),ig 34 28 true (.load1 (.s 33)),ig 35 28 true (.faddr 0 (.s 6)),ig 36 28 true (.load1 (.s 35)),ig 37 28 true (.bin .geq (.s 34) (.s 36)),iq 38 (.pick (.s 28) (.s 37) (.c (.bool false))),im 25 38] [])
 (.cond (.s 25)
 (.seq
 (.reg [ik 4 6])
 .ret)
 (.seq
 (.reg [ia 40 1 6,il 41 40,iq 42 (.lenL (.s 41)),iq 43 (.bin .gtr (.s 42) (.c (.int .i64 4))),im 39 43])
 (.cond (.s 39)
 (.seq
 (.reg [ik 4 18])
 .ret)
 .skip)))))))
 (.seq
 (.drw [im 44 0,ia 45 1 6,il 46 45,iq 47 (.call 20 [.s 46]),ia 48 2 6,iq 49 (.loadn 4 (.s 48)),iq 50 (.bsl 4 1 [(.int .i64 0),(ofL []), .snil, .snil] [(0,4,(.s 49))]),iq 51 (.app 4 (.s 47) (.s 50)),⟨(some 52),(.call 77 [.s 44, .s 51]),none,(some [])⟩,im 7 52] [])
 (.seq
 (.reg [im 53 7,iq 54 (.eq (.one .i) true (.s 53) (.c (.int .i64 0)))])
 (.cond (.s 54)
 (.seq
 (.reg [im 55 7,im 4 55])
 .ret)
 .skip))))))
 (.reg [iq 56 (.bin .add (.s 10) (.c (.int .i64 1))),im 10 56])))))))
 (.seq
 (.reg [ik 4 0])
 .ret)))}
theorem Jpf :compFn Tryz.prog Tryz.f41 [[],[0,1,8,9,10],[0,1,8,9,10],[0,1,8,9,10],[0,1,6,8,9,10]]=some Kt:=by kernel_rfl
def Qx :Eva.Fn:={ntmps:=11,res:=[.s 2],body:=
 (.seq
 (.reg [iq 2 (.mv (.c (.bool false)))])
 (.seq
 (.reg [im 3 0,iq 4 (.call 72 [.s 3]),im 5 4,ig 6 5 true (.mv (.s 0)),ig 7 5 true (.bin .add (.c (ofL [32])) (.s 6)),ig 8 5 true (.bin .add (.s 7) (.c (ofL [32]))),ig 9 5 true (.call 73 [(.c (ofL [32,108,101,110,32,110,111,116,32,97,110,100,32,111,114,32,101,113,32,108,116,32,97,100,100,32,115,117,98,32,109,117,108,32,115,104,108,32,115,104,114,32,105,56,32,105,49,54,32,105,51,50,32,117,56,32,117,49,54,32,117,51,50,32,99,97,116,32,116,101,120,116,32,97,116,32,103,101,116,32,104,97,115,32,111,114,101,108,115,101,32])), .s 8]),iq 10 (.pick (.s 5) (.s 9) (.c (.bool false))),im 2 10])
 .ret))}
theorem Jpg :compFn Tryz.prog Tryz.f76 []=some Qx:=by kernel_rfl
def Ku :Eva.Fn:={ntmps:=8,res:=[.s 2],body:=
 (.seq
 (.reg [iq 2 (.mv (.c .snil))])
 (.seqj [0]
 (.seq
 (.reg [im 3 0,iq 4 (.eq (.one .l) false (.s 3) (.c .snil))])
 (.cond (.s 4)
 (.seq
 (.reg [iq 2 (.mv (.c .snil))])
 .ret)
 .skip))
 (.seq
 (.reg [iq 5 (.bsl 4 0 [] []),im 6 0,iq 7 (.app 4 (.s 5) (.s 6)),im 2 7])
 .ret)))}
theorem Jph :compFn Tryz.prog Tryz.f20 [[0]]=some Ku:=by kernel_rfl
def KG :Eva.Fn:={ntmps:=21,res:=[.s 4],body:=
 (.seq
 (.reg [ik 4 0])
 (.seqj []
 (.seq
 (.reg [im 8 1,iq 9 (.lenL (.s 8)),ik 10 0])
 (.block 0
 (.loop [0,8,9,10]
 (.seq
 (.reg [iq 11 (.bin .lss (.s 10) (.s 9))])
 (.seqj [0,8,9,10]
 (.cond (.s 11)
 .skip
 (.exit 0))
 (.seqj [0,8,9,10]
 (.block 1
 (.seq
 (.reg [iq 12 (.iaddrS 4 (.s 8) (.s 10)),iq 13 (.loadn 4 (.s 12)),iq 6 (.alloc [(.int .i64 0),(ofL []), .snil, .snil]),iz (.store 4 (.s 6) (.s 13))])
 (.seq
 (.reg [im 14 0,iq 15 (.loadn 4 (.s 6)),iq 16 (.call 40 [.s 14, .s 15,(.c (.int .i64 1))]),im 7 16])
 (.seq
 (.reg [im 17 7,iq 18 (.eq (.one .i) true (.s 17) (.c (.int .i64 0)))])
 (.cond (.s 18)
 (.seq
 (.reg [im 19 7,im 4 19])
 .ret)
 .skip)))))
 (.reg [iq 20 (.bin .add (.s 10) (.c (.int .i64 1))),im 10 20])))))))
 (.seq
 (.reg [ik 4 0])
 .ret)))}
theorem Jpi :compFn Tryz.prog Tryz.f77 [[],[0,8,9,10],[0,8,9,10],[0,8,9,10]]=some KG:=by kernel_rfl
def QN :Eva.Fn:={ntmps:=66,res:=[.s 4],body:=
 (.seq
 (.reg [iq 2 (.box (.s 0)),iq 3 (.box (.s 1)),iq 4 (.mv (.c (.bool false)))])
 (.seq
 (.reg [iq 11 (.loadn 6 (.s 2)),iq 12 (.call 39 [.s 11]),iq 13 (.build [.mnil,(.int .i64 0)] [(0,1,(.s 12))]),iq 14 (.box (.s 13)),im 5 14])
 (.seqj [2,3,5]
 (.seq
 (.reg [ia 15 4 2,il 16 15,iq 17 (.lenL (.s 16)),ik 18 0])
 (.block 0
 (.loop [2,3,5,16,17,18]
 (.seq
 (.reg [iq 19 (.bin .lss (.s 18) (.s 17))])
 (.seqj [2,3,5,16,17,18]
 (.cond (.s 19)
 .skip
 (.exit 0))
 (.seqj [2,3,5,16,17,18]
 (.block 1
 (.seq
 (.reg [iq 20 (.iaddrS 5 (.s 16) (.s 18)),iq 21 (.loadn 5 (.s 20)),iq 7 (.alloc [(ofL []),(.int .i64 0),(ofL []), .snil, .snil]),iz (.store 5 (.s 7) (.s 21))])
 (.seq
 (.reg [im 22 5,ia 23 1 7,iq 24 (.loadn 4 (.s 23)),iq 25 (.call 40 [.s 22, .s 24,(.c (.int .i64 1))]),iq 26 (.eq (.one .i) true (.s 25) (.c (.int .i64 0)))])
 (.cond (.s 26)
 (.seq
 (.reg [iq 4 (.mv (.c (.bool false)))])
 .ret)
 .skip))))
 (.reg [iq 27 (.bin .add (.s 18) (.c (.int .i64 1))),im 18 27])))))))
 (.seq
 (.reg [im 28 5,iq 29 (.nilck (.s 28)),ia 30 1 29,iz (.store 1 (.s 30) (.c (.int .i64 0)))])
 (.seqj [2,3]
 (.seq
 (.reg [im 31 5,iq 32 (.loadn 4 (.s 3)),iq 33 (.call 40 [.s 31, .s 32,(.c (.int .i64 1))]),iq 34 (.eq (.one .i) true (.s 33) (.c (.int .i64 0)))])
 (.cond (.s 34)
 (.seq
 (.reg [iq 4 (.mv (.c (.bool false)))])
 .ret)
 .skip))
 (.seq
 (.reg [⟨(some 35), .mkmap,none,none⟩,im 8 35])
 (.seqj [3,8]
 (.seq
 (.reg [ia 36 4 2,il 37 36,iq 38 (.lenL (.s 37)),ik 39 0])
 (.block 2
 (.loop [2,3,8,38,39]
 (.seq
 (.reg [iq 40 (.bin .lss (.s 39) (.s 38))])
 (.seqj [2,3,8,38,39]
 (.cond (.s 40)
 .skip
 (.exit 2))
 (.seqj [2,3,8,38,39]
 (.block 3
 (.seq
 (.reg [ia 41 4 2,il 42 41,iq 43 (.lenL (.s 42)),ik 44 0])
 (.block 4
 (.loop [2,3,8,38,39,42,43,44]
 (.seq
 (.reg [iq 45 (.bin .lss (.s 44) (.s 43))])
 (.seqj [2,3,8,38,39,42,43,44]
 (.cond (.s 45)
 .skip
 (.exit 4))
 (.seqj [2,3,8,38,39,42,43,44]
 (.block 5
 (.seq
 (.reg [iq 46 (.iaddrS 5 (.s 42) (.s 44)),iq 47 (.loadn 5 (.s 46)),iq 10 (.alloc [(ofL []),(.int .i64 0),(ofL []), .snil, .snil]),iz (.store 5 (.s 10) (.s 47))])
 (.drw [im 48 8,ia 49 0 10,il 50 49,im 51 8,ia 52 0 10,il 53 52,iq 54 (.lookup (.one .s) (.bool false) false (.s 51) (.s 53)),im 55 54,ig 56 55 false (.faddr 1 (.s 10)),ig 57 55 false (.loadn 4 (.s 56)),ig 58 55 false (.mv (.s 8)),⟨(some 59),(.call 78 [.s 57, .s 58,(.c (.int .i64 1))]),(some (55,false)),(some [49])⟩,iq 60 (.pick (.s 55) (.c (.bool true)) (.s 59)),iz (.mupd (.one .s) (.s 48) (.s 50) (.s 60))] [])))
 (.reg [iq 61 (.bin .add (.s 44) (.c (.int .i64 1))),im 44 61]))))))))
 (.reg [iq 62 (.bin .add (.s 39) (.c (.int .i64 1))),im 39 62])))))))
 (.seq
 (.reg [iq 63 (.loadn 4 (.s 3)),im 64 8,iq 65 (.call 78 [.s 63, .s 64,(.c (.int .i64 1))]),im 4 65])
 .ret))))))))}
theorem Jpj :compFn Tryz.prog Tryz.f42 [[2,3,5],[2,3,5,16,17,18],[2,3,5,16,17,18],[2,3,5,16,17,18],[2,3],[3,8],[2,3,8,38,39],[2,3,8,38,39],[2,3,8,38,39],[2,3,8,38,39,42,43,44],[2,3,8,38,39,42,43,44],[2,3,8,38,39,42,43,44]]=some QN:=by kernel_rfl
def Yc :Eva.Fn:={ntmps:=32,res:=[.s 6],body:=
 (.seq
 (.reg [iq 3 (.box (.s 0)),iq 4 (.box (.s 1)),iq 5 (.box (.s 2)),iq 6 (.mv (.c (.bool false)))])
 (.seqj [3,4,5]
 (.seq
 (.reg [il 8 5,iq 9 (.bin .gtr (.s 8) (.c (.int .i64 12)))])
 (.cond (.s 9)
 (.seq
 (.reg [iq 6 (.mv (.c (.bool false)))])
 .ret)
 .skip))
 (.seq
 (.reg [iq 10 (.mkfn 109 [] [.s 4, .s 5]),iq 7 (.alloc [.fnil]),iz (.store 1 (.s 7) (.s 10))])
 (.seqj []
 (.seq
 (.reg [ia 11 0 3,il 12 11])
 (.block 0
 (.seq
 (.reg [iq 14 (.eq (.one .i) false (.s 12) (.c (.int .i64 9))),im 13 14])
 (.cond (.s 13)
 (.seq
 (.reg [il 15 4,ia 16 1 3,il 17 16,iq 18 (.lookup (.one .s) (.bool false) false (.s 15) (.s 17)),im 6 18])
 .ret)
 (.seq
 (.reg [iq 20 (.eq (.one .i) false (.s 12) (.c (.int .i64 8))),im 19 20])
 (.cond (.s 19)
 (.seq
 (.reg [ia 21 3 3,il 22 21,il 23 7,iq 24 (.call 43 [.s 22, .s 23]),im 6 24])
 .ret)
 (.seq
 (.reg [iq 26 (.eq (.one .i) false (.s 12) (.c (.int .i64 7))),im 25 26])
 (.cond (.s 25)
 (.seq
 (.reg [ia 27 3 3,il 28 27,iq 29 (.mkfn 110 [] [.s 7]),iq 30 (.call 43 [.s 28, .s 29]),iq 31 (.not (.s 30)),im 6 31])
 .ret)
 .skip))))))))
 (.seq
 (.reg [iq 6 (.mv (.c (.bool true)))])
 .ret)))))}
theorem Jpk :compFn Tryz.prog Tryz.f78 [[3,4,5],[]]=some Yc:=by kernel_rfl
def QO :Eva.Fn:={ntmps:=10,res:=[.s 4],body:=
 (.seq
 (.reg [iq 3 (.box (.s 0)),iq 4 (.mv (.c (.bool false)))])
 (.seq
 (.reg [iq 5 (.loadn 4 (.s 3)),il 6 1,il 7 2,iq 8 (.bin .add (.s 7) (.c (.int .i64 1))),iq 9 (.call 78 [.s 5, .s 6, .s 8]),im 4 9])
 .ret))}
theorem Jne :compFn Tryz.prog Tryz.f109 []=some QO:=by kernel_rfl
def JG :Eva.Fn:={ntmps:=9,res:=[.s 4],body:=
 (.seq
 (.reg [iq 4 (.mv (.c (.bool false)))])
 (.seq
 (.reg [im 5 0,im 6 1,iq 7 (.call 79 [.s 5, .s 6]),iq 8 (.bin .geq (.s 7) (.c (.int .i64 0))),im 4 8])
 .ret))}
theorem Jpl :compFn Tryz.prog Tryz.f43 []=some JG:=by kernel_rfl
def JT :Eva.Fn:={ntmps:=19,res:=[.s 4],body:=
 (.seq
 (.reg [ik 4 0])
 (.seqj []
 (.seq
 (.reg [im 6 0,iq 7 (.lenL (.s 6)),ik 8 0])
 (.block 0
 (.loop [0,1,7,8]
 (.seq
 (.reg [iq 9 (.bin .lss (.s 8) (.s 7))])
 (.seqj [0,1,7,8]
 (.cond (.s 9)
 .skip
 (.exit 0))
 (.seqj [0,1,7,8]
 (.block 1
 (.seq
 (.reg [im 10 8,im 5 10])
 (.seq
 (.reg [im 11 1,im 12 0,im 13 5,iq 14 (.iaddrS 4 (.s 12) (.s 13)),iq 15 (.loadn 4 (.s 14)),iq 16 (.callv (.s 11) [.s 15])])
 (.cond (.s 16)
 (.seq
 (.reg [im 17 5,im 4 17])
 .ret)
 .skip))))
 (.reg [iq 18 (.bin .add (.s 8) (.c (.int .i64 1))),im 8 18])))))))
 (.seq
 (.reg [iq 4 (.mv (.c (.int .i64 (-1))))])
 .ret)))}
theorem Jpm :compFn Tryz.prog Tryz.f79 [[],[0,1,7,8],[0,1,7,8],[0,1,7,8]]=some JT:=by kernel_rfl
def QP :Eva.Fn:={ntmps:=8,res:=[.s 3],body:=
 (.seq
 (.reg [iq 2 (.box (.s 0)),iq 3 (.mv (.c (.bool false)))])
 (.seq
 (.reg [il 4 1,iq 5 (.loadn 4 (.s 2)),iq 6 (.callv (.s 4) [.s 5]),iq 7 (.not (.s 6)),im 3 7])
 .ret))}
theorem Jnf :compFn Tryz.prog Tryz.f110 []=some QP:=by kernel_rfl
def QX :Eva.Fn:={ntmps:=43,res:=[.s 2],body:=
 (.seq
 (.reg [iq 1 (.box (.s 0)),iq 2 (.mv (.c .snil))])
 (.seq
 (.reg [iq 3 (.mv (.c .snil))])
 (.seqj [1,3]
 (.seq
 (.reg [ia 8 4 1,il 9 8,iq 10 (.lenL (.s 9)),ik 11 0])
 (.block 0
 (.loop [1,3,9,10,11]
 (.seq
 (.reg [iq 12 (.bin .lss (.s 11) (.s 10))])
 (.seqj [1,3,9,10,11]
 (.cond (.s 12)
 .skip
 (.exit 0))
 (.seqj [1,3,9,10,11]
 (.block 1
 (.seq
 (.reg [iq 13 (.iaddrS 5 (.s 9) (.s 11)),iq 14 (.loadn 5 (.s 13)),iq 5 (.alloc [(ofL []),(.int .i64 0),(ofL []), .snil, .snil]),iz (.store 5 (.s 5) (.s 14))])
 (.reg [im 15 3,ia 16 1 5,iq 17 (.loadn 4 (.s 16)),iq 18 (.bsl 4 1 [(.int .i64 0),(ofL []), .snil, .snil] [(0,4,(.s 17))]),iq 19 (.app 4 (.s 15) (.s 18)),im 3 19])))
 (.reg [iq 20 (.bin .add (.s 11) (.c (.int .i64 1))),im 11 20])))))))
 (.seq
 (.reg [im 21 3,ia 22 0 1,iq 23 (.loadn 4 (.s 22)),iq 24 (.bsl 4 1 [(.int .i64 0),(ofL []), .snil, .snil] [(0,4,(.s 23))]),iq 25 (.app 4 (.s 21) (.s 24)),im 3 25])
 (.seqj [3]
 (.seq
 (.reg [ia 26 5 1,il 27 26,iq 28 (.lenL (.s 27)),ik 29 0])
 (.block 2
 (.loop [3,27,28,29]
 (.seq
 (.reg [iq 30 (.bin .lss (.s 29) (.s 28))])
 (.seqj [3,27,28,29]
 (.cond (.s 30)
 .skip
 (.exit 2))
 (.seqj [3,27,28,29]
 (.block 3
 (.seq
 (.reg [iq 31 (.iaddrS 6 (.s 27) (.s 29)),iq 32 (.loadn 6 (.s 31)),iq 7 (.alloc [(ofL []), .snil,(.int .i64 0),(ofL []), .snil, .snil]),iz (.store 6 (.s 7) (.s 32))])
 (.drw [im 33 3,ia 34 1 7,il 35 34,iq 36 (.app 4 (.s 33) (.s 35)),ia 37 2 7,iq 38 (.loadn 4 (.s 37)),iq 39 (.bsl 4 1 [(.int .i64 0),(ofL []), .snil, .snil] [(0,4,(.s 38))]),iq 40 (.app 4 (.s 36) (.s 39)),im 3 40] [([33],[37])])))
 (.reg [iq 41 (.bin .add (.s 29) (.c (.int .i64 1))),im 29 41])))))))
 (.seq
 (.reg [im 42 3,im 2 42])
 .ret))))))}
theorem Jpn :compFn Tryz.prog Tryz.f44 [[1,3],[1,3,9,10,11],[1,3,9,10,11],[1,3,9,10,11],[3],[3,27,28,29],[3,27,28,29],[3,27,28,29]]=some QX:=by kernel_rfl
def Kv :Eva.Fn:={ntmps:=45,res:=[.s 4],body:=
 (.seq
 (.reg [iq 3 (.box (.s 1)),iq 4 (.mv (.c (.bool false)))])
 (.seqj [0,3]
 (.seq
 (.reg [ia 6 0 3,il 7 6,iq 8 (.eq (.one .i) false (.s 7) (.c (.int .i64 6))),im 9 8,ig 10 9 true (.faddr 3 (.s 3)),ig 11 9 true (.load1 (.s 10)),ig 12 9 true (.lenL (.s 11)),ig 13 9 true (.eq (.one .i) false (.s 12) (.c (.int .i64 1))),iq 14 (.pick (.s 9) (.s 13) (.c (.bool false)))])
 (.cond (.s 14)
 (.seq
 (.reg [ia 15 3 3,il 16 15,iq 17 (.iaddrS 4 (.s 16) (.c (.int .i64 0))),iq 18 (.loadn 4 (.s 17)),iq 5 (.alloc [(.int .i64 0),(ofL []), .snil, .snil]),iz (.store 4 (.s 5) (.s 18))])
 (.seqj [0,3,5]
 (.seq
 (.reg [im 19 0,iq 20 (.nilck (.s 19)),ia 21 0 20,il 22 21,iq 23 (.rngM (.s 22))])
 (.block 0
 (.loop [0,3,5,23]
 (.seq
 (.reg [iq 24 (.nextM (.s 23)),ie 25 0 24])
 (.seqj [0,3,5,23]
 (.cond (.s 25)
 .skip
 (.exit 0))
 (.block 1
 (.seq
 (.reg [ia 27 0 5,il 28 27,iq 29 (.eq (.one .i) false (.s 28) (.c (.int .i64 9)))])
 (.cond (.s 29)
 (.drw [im 30 0,iq 31 (.nilck (.s 30)),ia 32 0 31,il 33 32,ia 34 1 5,il 35 34,iq 36 (.lookup (.one .s) (.agg [(.int .i64 0),(ofL []), .snil, .snil]) false (.s 33) (.s 35)),iz (.store 4 (.s 5) (.s 36))] [])
 .skip))))))))
 (.seq
 (.reg [ia 37 0 5,il 38 37,iq 39 (.eq (.one .i) false (.s 38) (.c (.int .i64 6)))])
 (.cond (.s 39)
 (.seq
 (.reg [iq 4 (.mv (.c (.bool true)))])
 .ret)
 .skip))))
 .skip))
 (.seq
 (.reg [ia 40 3 3,il 41 40,im 42 0,iq 43 (.mkfn 45 [.s 42] []),iq 44 (.call 43 [.s 41, .s 43]),im 4 44])
 .ret)))}
theorem Jpo :compFn Tryz.prog Tryz.f45 [[0,3],[0,3,5],[0,3,5,23],[0,3,5,23]]=some Kv:=by kernel_rfl
def Qb :Eva.Fn:={ntmps:=12,res:=[.s 4, .s 5],body:=
 (.seq
 (.reg [iq 3 (.box (.s 1)),ik 4 0,ik 5 0])
 (.seq
 (.reg [iq 6 (.alloc [(.int .i64 0)]),iz (.store 1 (.s 6) (.c (.int .i64 400)))])
 (.seq
 (.reg [im 7 0,iq 8 (.loadn 4 (.s 3)),iq 9 (.call 46 [.s 7, .s 8, .s 6]),ie 10 0 9,ie 11 1 9,im 4 10,im 5 11])
 .ret)))}
theorem Jpp :compFn Tryz.prog Tryz.f19 []=some Qb:=by kernel_rfl
def Qc :Eva.Fn:={ntmps:=70,res:=[.s 6, .s 7],body:=
 (.seq
 (.reg [iq 4 (.box (.s 1)),ik 6 0,ik 7 0])
 (.seq
 (.reg [im 13 2,iq 14 (.nilck (.s 13)),il 15 14,iq 16 (.bin .sub (.s 15) (.c (.int .i64 1))),iq 17 (.nilck (.s 13)),iz (.store 1 (.s 17) (.s 16))])
 (.seqj [0,2,4]
 (.seq
 (.reg [im 18 2,iq 19 (.nilck (.s 18)),il 20 19,iq 21 (.bin .lss (.s 20) (.c (.int .i64 0))),im 22 21,ig 23 22 false (.faddr 3 (.s 4)),ig 24 22 false (.load1 (.s 23)),ig 25 22 false (.lenL (.s 24)),ig 26 22 false (.bin .gtr (.s 25) (.c (.int .i64 8))),iq 27 (.pick (.s 22) (.c (.bool true)) (.s 26)),im 28 27,ig 29 28 false (.faddr 2 (.s 4)),ig 30 28 false (.load1 (.s 29)),ig 31 28 false (.lenL (.s 30)),ig 32 28 false (.bin .gtr (.s 31) (.c (.int .i64 8))),iq 33 (.pick (.s 28) (.c (.bool true)) (.s 32))])
 (.cond (.s 33)
 (.seq
 (.reg [ik 6 0,ik 7 20])
 .ret)
 .skip))
 (.seq
 (.reg [ia 34 0 4,il 35 34,ia 36 1 4,il 37 36,ia 38 2 4,il 39 38,iq 40 (.build [(.int .i64 0),(ofL []), .snil, .snil] [(0,1,(.s 35)),(1,1,(.s 37)),(2,1,(.s 39))]),iq 8 (.alloc [(.int .i64 0),(ofL []), .snil, .snil]),iz (.store 4 (.s 8) (.s 40))])
 (.seqj [0,8]
 (.seq
 (.reg [ia 41 3 4,il 42 41,iq 43 (.lenL (.s 42)),ik 44 0])
 (.block 0
 (.loop [0,2,8,42,43,44]
 (.seq
 (.reg [iq 45 (.bin .lss (.s 44) (.s 43))])
 (.seqj [0,2,8,42,43,44]
 (.cond (.s 45)
 .skip
 (.exit 0))
 (.seqj [0,2,8,42,43,44]
 (.block 1
 (.seq
 (.reg [iq 46 (.iaddrS 4 (.s 42) (.s 44)),iq 47 (.loadn 4 (.s 46)),iq 10 (.alloc [(.int .i64 0),(ofL []), .snil, .snil]),iz (.store 4 (.s 10) (.s 47))])
 (.seq
 (.reg [im 49 0,iq 50 (.loadn 4 (.s 10)),im 51 2,iq 52 (.call 46 [.s 49, .s 50, .s 51]),im 48 52,ie 53 0 48,ie 54 1 48,im 11 53,im 12 54])
 (.seqj [0,2,8,11,42,43,44]
 (.seq
 (.reg [im 55 12,iq 56 (.eq (.one .i) true (.s 55) (.c (.int .i64 0)))])
 (.cond (.s 56)
 (.seq
 (.reg [im 57 12,ik 6 0,im 7 57])
 .ret)
 .skip))
 (.reg [ia 58 3 8,il 59 58,im 60 11,iq 61 (.bsl 1 1 [(.int .i64 0)] [(0,1,(.s 60))]),iq 62 (.app 1 (.s 59) (.s 61)),ia 63 3 8,iz (.store 1 (.s 63) (.s 62))])))))
 (.reg [iq 64 (.bin .add (.s 44) (.c (.int .i64 1))),im 44 64])))))))
 (.seq
 (.reg [im 65 0,iq 66 (.loadn 4 (.s 8)),iq 67 (.call 80 [.s 65, .s 66]),ie 68 0 67,ie 69 1 67,im 6 68,im 7 69])
 .ret))))))}
theorem Jpq :compFn Tryz.prog Tryz.f46 [[0,2,4],[0,8],[0,2,8,42,43,44],[0,2,8,42,43,44],[0,2,8,42,43,44],[0,2,8,11,42,43,44]]=some Qc:=by kernel_rfl
def Qd :Eva.Fn:={ntmps:=76,res:=[.s 4, .s 5],body:=
 (.seq
 (.reg [iq 3 (.box (.s 1)),ik 4 0,ik 5 0])
 (.seq
 (.reg [iq 9 (.loadn 4 (.s 3)),iq 10 (.call 111 [.s 9]),iq 6 (.alloc [(.int .i64 0),(.int .i64 0),(.int .i64 0),(ofL []),(ofL []),(ofL []),(ofL []),(ofL []),(ofL []),(ofL []),(ofL []),(ofL []),(.int .i64 0),(.int .i64 0),(.int .i64 0),(.int .i64 0),(.int .i64 0),(.int .i64 0),(.int .i64 0),(.int .i64 0)]),iz (.store 20 (.s 6) (.s 10))])
 (.seqj [0,3,6]
 (.seq
 (.drw [im 12 0,iq 13 (.nilck (.s 12)),ia 14 1 13,il 15 14,iq 16 (.loadn 20 (.s 6)),iq 17 (.lookup (.many [.i, .i, .i, .s, .s, .s, .s, .s, .s, .s, .s, .s, .i, .i, .i, .i, .i, .i, .i, .i]) (.int .i64 0) true (.s 15) (.s 16)),im 11 17,ie 18 0 11,ie 19 1 11,im 7 18,im 8 19] [])
 (.seq
 (.drw [im 20 8,im 21 20,ig 22 21 true (.mv (.s 0)),ig 23 21 true (.nilck (.s 22)),ig 24 21 true (.faddr 0 (.s 23)),ig 25 21 true (.load1 (.s 24)),ig 26 21 true (.mv (.s 7)),ig 27 21 true (.iaddrS 4 (.s 25) (.s 26)),ig 28 21 true (.loadn 4 (.s 27)),ig 29 21 true (.call 111 [.s 28]),ig 30 21 true (.fld 12 (some 8) (.s 29)),ig 31 21 true (.faddr 12 (.s 6)),ig 32 21 true (.loadn 8 (.s 31)),ig 33 21 true (.eq (.many [.i, .i, .i, .i, .i, .i, .i, .i]) false (.s 30) (.s 32)),iq 34 (.pick (.s 21) (.s 33) (.c (.bool false)))] [])
 (.cond (.s 34)
 (.seq
 (.reg [im 35 7,im 4 35,ik 5 0])
 .ret)
 .skip)))
 (.seqj [0,3,6]
 (.seq
 (.reg [im 36 0,iq 37 (.nilck (.s 36)),ia 38 0 37,il 39 38,iq 40 (.lenL (.s 39)),iq 41 (.bin .geq (.s 40) (.c (.int .i64 120)))])
 (.cond (.s 41)
 (.seq
 (.reg [ik 4 0,ik 5 20])
 .ret)
 .skip))
 (.seq
 (.drw [ia 42 2 3,il 43 42,iq 44 (.call 112 [.s 43]),ia 45 3 3,il 46 45,⟨(some 47),(.call 113 [.s 46]),none,(some [])⟩,ia 48 2 3,iz (.store 1 (.s 48) (.s 44)),ia 49 3 3,iz (.store 1 (.s 49) (.s 47))] [])
 (.seq
 (.drw [im 50 0,iq 51 (.nilck (.s 50)),ia 52 1 51,il 53 52,iq 54 (.loadn 20 (.s 6)),im 55 0,iq 56 (.nilck (.s 55)),ia 57 0 56,il 58 57,iq 59 (.lenL (.s 58)),iz (.mupd (.many [.i, .i, .i, .s, .s, .s, .s, .s, .s, .s, .s, .s, .i, .i, .i, .i, .i, .i, .i, .i]) (.s 53) (.s 54) (.s 59))] [])
 (.seq
 (.drw [im 60 0,im 61 0,iq 62 (.nilck (.s 61)),ia 63 0 62,il 64 63,iq 65 (.loadn 4 (.s 3)),iq 66 (.bsl 4 1 [(.int .i64 0),(ofL []), .snil, .snil] [(0,4,(.s 65))]),iq 67 (.app 4 (.s 64) (.s 66)),iq 68 (.nilck (.s 60)),ia 69 0 68,iz (.store 1 (.s 69) (.s 67))] [])
 (.seq
 (.reg [im 70 0,iq 71 (.nilck (.s 70)),ia 72 0 71,il 73 72,iq 74 (.lenL (.s 73)),iq 75 (.bin .sub (.s 74) (.c (.int .i64 1))),im 4 75,ik 5 0])
 .ret))))))))}
theorem Jpr :compFn Tryz.prog Tryz.f80 [[0,3,6],[0,3,6]]=some Qd:=by kernel_rfl
def Yd :Eva.Fn:={ntmps:=26,res:=[(.cn 2 20)],body:=
 (.seq
 (.reg [iq 1 (.box (.s 0)),iq 2 (.alloc [(.int .i64 0),(.int .i64 0),(.int .i64 0),(ofL []),(ofL []),(ofL []),(ofL []),(ofL []),(ofL []),(ofL []),(ofL []),(ofL []),(.int .i64 0),(.int .i64 0),(.int .i64 0),(.int .i64 0),(.int .i64 0),(.int .i64 0),(.int .i64 0),(.int .i64 0)])])
 (.seq
 (.reg [ia 4 0 1,il 5 4,ia 6 2 1,il 7 6,iq 8 (.lenL (.s 7)),ia 9 3 1,il 10 9,iq 11 (.lenL (.s 10)),ia 12 1 1,il 13 12,iq 14 (.build [(.int .i64 0),(.int .i64 0),(.int .i64 0),(ofL []),(ofL []),(ofL []),(ofL []),(ofL []),(ofL []),(ofL []),(ofL []),(ofL []),(.int .i64 0),(.int .i64 0),(.int .i64 0),(.int .i64 0),(.int .i64 0),(.int .i64 0),(.int .i64 0),(.int .i64 0)] [(0,1,(.s 5)),(1,1,(.s 8)),(2,1,(.s 11)),(3,1,(.s 13))]),iq 3 (.alloc [(.int .i64 0),(.int .i64 0),(.int .i64 0),(ofL []),(ofL []),(ofL []),(ofL []),(ofL []),(ofL []),(ofL []),(ofL []),(ofL []),(.int .i64 0),(.int .i64 0),(.int .i64 0),(.int .i64 0),(.int .i64 0),(.int .i64 0),(.int .i64 0),(.int .i64 0)]),iz (.store 20 (.s 3) (.s 14))])
 (.seq
 (.drw [ia 15 4 3,iq 16 (.cutA 8 1 (.s 15) none none none),ia 17 2 1,il 18 17,iq 19 (.copy 1 (.s 16) (.s 18))] [])
 (.seq
 (.drw [ia 20 12 3,iq 21 (.cutA 8 1 (.s 20) none none none),ia 22 3 1,il 23 22,iq 24 (.copy 1 (.s 21) (.s 23))] [])
 (.seq
 (.reg [iq 25 (.loadn 20 (.s 3)),iz (.store 20 (.s 2) (.s 25))])
 .ret)))))}
theorem Jng :compFn Tryz.prog Tryz.f111 []=some Yd:=by kernel_rfl
def Ka :Eva.Fn:={ntmps:=8,res:=[.s 2],body:=
 (.seq
 (.reg [iq 2 (.mv (.c .snil))])
 (.seqj [0]
 (.seq
 (.reg [im 3 0,iq 4 (.eq (.one .l) false (.s 3) (.c .snil))])
 (.cond (.s 4)
 (.seq
 (.reg [iq 2 (.mv (.c .snil))])
 .ret)
 .skip))
 (.seq
 (.reg [iq 5 (.bsl 1 0 [] []),im 6 0,iq 7 (.app 1 (.s 5) (.s 6)),im 2 7])
 .ret)))}
theorem Jnh :compFn Tryz.prog Tryz.f112 [[0]]=some Ka:=by kernel_rfl
def KH :Eva.Fn:={ntmps:=8,res:=[.s 2],body:=
 (.seq
 (.reg [iq 2 (.mv (.c .snil))])
 (.seqj [0]
 (.seq
 (.reg [im 3 0,iq 4 (.eq (.one .l) false (.s 3) (.c .snil))])
 (.cond (.s 4)
 (.seq
 (.reg [iq 2 (.mv (.c .snil))])
 .ret)
 .skip))
 (.seq
 (.reg [iq 5 (.bsl 1 0 [] []),im 6 0,iq 7 (.app 1 (.s 5) (.s 6)),im 2 7])
 .ret)))}
theorem Jni :compFn Tryz.prog Tryz.f113 [[0]]=some KH:=by kernel_rfl
def Qy :Eva.Fn:={ntmps:=140,res:=[.s 2, .s 3],body:=
 (.seq
 (.reg [iq 1 (.box (.s 0)),iq 2 (.mv (.c .pnil)),ik 3 0])
 (.seqj [1]
 (.seq
 (.reg [iq 13 (.loadn 6 (.s 1)),iq 14 (.call 21 [.s 13]),iq 15 (.eq (.one .i) true (.s 14) (.c (.int .i64 0)))])
 (.cond (.s 15)
 (.seq
 (.reg [iq 16 (.loadn 6 (.s 1)),iq 17 (.call 21 [.s 16]),iq 2 (.mv (.c .pnil)),im 3 17])
 .ret)
 .skip))
 (.seq
 (.reg [iq 18 (.loadn 6 (.s 1)),iq 19 (.build [.snil, .snil,(.int .i64 0),(ofL []), .snil, .snil, .snil, .snil, .snil,(.int .i64 0), .snil] [(2,6,(.s 18))]),iq 20 (.box (.s 19)),im 4 20])
 (.seqj [1,4]
 (.seq
 (.reg [ik 5 0])
 (.block 0
 (.loop [1,4,5]
 (.seqj [1,4,5]
 (.seq
 (.reg [im 21 5,ia 22 4 1,il 23 22,iq 24 (.lenL (.s 23)),iq 25 (.bin .lss (.s 21) (.s 24))])
 (.cond (.s 25)
 .skip
 (.exit 0)))
 (.seqj [1,4,5]
 (.block 1
 (.seq
 (.reg [im 29 4,ia 30 4 1,il 31 30,im 32 5,iq 33 (.iaddrS 5 (.s 31) (.s 32)),ia 34 1 33,iq 35 (.loadn 4 (.s 34)),iq 36 (.call 22 [.s 29, .s 35]),im 28 36,ie 37 0 28,ie 38 1 28,im 6 37,im 7 38])
 (.seqj [1,4,5,6]
 (.seq
 (.reg [im 39 7,iq 40 (.eq (.one .i) true (.s 39) (.c (.int .i64 0)))])
 (.cond (.s 40)
 (.seq
 (.reg [im 41 7,iq 2 (.mv (.c .pnil)),im 3 41])
 .ret)
 .skip))
 (.reg [im 42 4,im 43 4,iq 44 (.nilck (.s 43)),ia 45 8 44,il 46 45,im 47 6,iq 48 (.bsl 1 1 [(.int .i64 0)] [(0,1,(.s 47))]),iq 49 (.app 1 (.s 46) (.s 48)),iq 50 (.nilck (.s 42)),ia 51 8 50,iz (.store 1 (.s 51) (.s 49))]))))
 (.reg [im 26 5,iq 27 (.bin .add (.s 26) (.c (.int .i64 1))),im 5 27]))))))
 (.seq
 (.reg [im 53 4,ia 54 0 1,iq 55 (.loadn 4 (.s 54)),iq 56 (.call 22 [.s 53, .s 55]),im 52 56,ie 57 0 52,ie 58 1 52,im 8 57,im 9 58])
 (.seqj [1,4,8]
 (.seq
 (.reg [im 59 9,iq 60 (.eq (.one .i) true (.s 59) (.c (.int .i64 0)))])
 (.cond (.s 60)
 (.seq
 (.reg [im 61 9,iq 2 (.mv (.c .pnil)),im 3 61])
 .ret)
 .skip))
 (.seq
 (.reg [im 62 4,im 63 8,iq 64 (.nilck (.s 62)),ia 65 9 64,iz (.store 1 (.s 65) (.s 63))])
 (.seqj [4]
 (.seq
 (.reg [ik 10 0])
 (.block 2
 (.loop [1,4,10]
 (.seqj [1,4,10]
 (.seq
 (.reg [im 66 10,ia 67 5 1,il 68 67,iq 69 (.lenL (.s 68)),iq 70 (.bin .lss (.s 66) (.s 69))])
 (.cond (.s 70)
 .skip
 (.exit 2)))
 (.seqj [1,4,10]
 (.block 3
 (.seq
 (.reg [ia 73 5 1,il 74 73,im 75 10,iq 76 (.iaddrS 6 (.s 74) (.s 75)),ia 77 0 76,il 78 77,iq 79 (.build [(ofL []), .snil,(.int .i64 0)] [(0,1,(.s 78))]),iq 11 (.alloc [(ofL []), .snil,(.int .i64 0)]),iz (.store 3 (.s 11) (.s 79))])
 (.seqj [1,4,10,11]
 (.seq
 (.reg [ik 12 0])
 (.block 4
 (.loop [1,4,10,11,12]
 (.seqj [1,4,10,11,12]
 (.seq
 (.reg [im 80 12,ia 81 5 1,il 82 81,im 83 10,iq 84 (.iaddrS 6 (.s 82) (.s 83)),ia 85 1 84,il 86 85,iq 87 (.lenL (.s 86)),iq 88 (.bin .lss (.s 80) (.s 87))])
 (.cond (.s 88)
 .skip
 (.exit 4)))
 (.seqj [1,4,10,11,12]
 (.block 5
 (.seq
 (.reg [im 92 4,ia 93 5 1,il 94 93,im 95 10,iq 96 (.iaddrS 6 (.s 94) (.s 95)),ia 97 1 96,il 98 97,im 99 12,iq 100 (.iaddrS 4 (.s 98) (.s 99)),iq 101 (.loadn 4 (.s 100)),iq 102 (.call 22 [.s 92, .s 101]),im 91 102,ie 103 0 91,ie 104 1 91,im 8 103,im 9 104])
 (.seqj [1,4,8,10,11,12]
 (.seq
 (.reg [im 105 9,iq 106 (.eq (.one .i) true (.s 105) (.c (.int .i64 0)))])
 (.cond (.s 106)
 (.seq
 (.reg [im 107 9,iq 2 (.mv (.c .pnil)),im 3 107])
 .ret)
 .skip))
 (.reg [ia 108 1 11,il 109 108,im 110 8,iq 111 (.bsl 1 1 [(.int .i64 0)] [(0,1,(.s 110))]),iq 112 (.app 1 (.s 109) (.s 111)),ia 113 1 11,iz (.store 1 (.s 113) (.s 112))]))))
 (.reg [im 89 12,iq 90 (.bin .add (.s 89) (.c (.int .i64 1))),im 12 90]))))))
 (.seq
 (.reg [im 115 4,ia 116 5 1,il 117 116,im 118 10,iq 119 (.iaddrS 6 (.s 117) (.s 118)),ia 120 2 119,iq 121 (.loadn 4 (.s 120)),iq 122 (.call 22 [.s 115, .s 121]),im 114 122,ie 123 0 114,ie 124 1 114,ia 125 2 11,iz (.store 1 (.s 125) (.s 123)),im 9 124])
 (.seqj [1,4,10,11]
 (.seq
 (.reg [im 126 9,iq 127 (.eq (.one .i) true (.s 126) (.c (.int .i64 0)))])
 (.cond (.s 127)
 (.seq
 (.reg [im 128 9,iq 2 (.mv (.c .pnil)),im 3 128])
 .ret)
 .skip))
 (.drw [im 129 4,im 130 4,iq 131 (.nilck (.s 130)),ia 132 10 131,il 133 132,iq 134 (.loadn 3 (.s 11)),iq 135 (.bsl 3 1 [(ofL []), .snil,(.int .i64 0)] [(0,3,(.s 134))]),iq 136 (.app 3 (.s 133) (.s 135)),iq 137 (.nilck (.s 129)),ia 138 10 137,iz (.store 1 (.s 138) (.s 136))] []))))))
 (.reg [im 71 10,iq 72 (.bin .add (.s 71) (.c (.int .i64 1))),im 10 72]))))))
 (.seq
 (.reg [im 139 4,im 2 139,ik 3 0])
 .ret)))))))))}
theorem Jps :compFn Tryz.prog Tryz.f13 [[1],[1,4],[1,4,5],[1,4,5],[1,4,5],[1,4,5,6],[1,4,8],[4],[1,4,10],[1,4,10],[1,4,10],[1,4,10,11],[1,4,10,11,12],[1,4,10,11,12],[1,4,10,11,12],[1,4,8,10,11,12],[1,4,10,11]]=some Qy:=by kernel_rfl
def KW :Eva.Fn:={ntmps:=182,res:=[.s 2],body:=
 (.seq
 (.reg [iq 1 (.box (.s 0)),ik 2 0])
 (.seqj [1]
 (.seq
 (.reg [ia 12 4 1,il 13 12,iq 14 (.lenL (.s 13)),iq 15 (.bin .gtr (.s 14) (.c (.int .i64 12))),im 16 15,ig 17 16 false (.faddr 5 (.s 1)),ig 18 16 false (.load1 (.s 17)),ig 19 16 false (.lenL (.s 18)),ig 20 16 false (.bin .gtr (.s 19) (.c (.int .i64 12))),iq 21 (.pick (.s 16) (.c (.bool true)) (.s 20))])
 (.cond (.s 21)
 (.seq
 (.reg [ik 2 3])
 .ret)
 .skip))
 (.seqj [1]
 (.seq
 (.reg [ik 3 0])
 (.block 0
 (.loop [1,3]
 (.seqj [1,3]
 (.seq
 (.reg [im 22 3,ia 23 4 1,il 24 23,iq 25 (.lenL (.s 24)),iq 26 (.bin .lss (.s 22) (.s 25))])
 (.cond (.s 26)
 .skip
 (.exit 0)))
 (.seqj [1,3]
 (.block 1
 (.seqj [1,3]
 (.seq
 (.reg [ia 29 4 1,il 30 29,im 31 3,iq 32 (.iaddrS 5 (.s 30) (.s 31)),ia 33 0 32,il 34 33,iq 35 (.call 47 [.s 34]),iq 36 (.not (.s 35)),im 37 36,ig 38 37 false (.faddr 4 (.s 1)),ig 39 37 false (.load1 (.s 38)),ig 40 37 false (.mv (.s 3)),ig 41 37 false (.iaddrS 5 (.s 39) (.s 40)),ig 42 37 false (.faddr 0 (.s 41)),ig 43 37 false (.load1 (.s 42)),ig 44 37 false (.call 48 [.s 43]),iq 45 (.pick (.s 37) (.c (.bool true)) (.s 44))])
 (.cond (.s 45)
 (.seq
 (.reg [ik 2 15])
 .ret)
 .skip))
 (.seq
 (.drw [im 46 3,iq 47 (.bin .gtr (.s 46) (.c (.int .i64 0))),im 48 47,ig 49 48 true (.faddr 4 (.s 1)),ig 50 48 true (.load1 (.s 49)),ig 51 48 true (.mv (.s 3)),ig 52 48 true (.iaddrS 5 (.s 50) (.s 51)),ig 53 48 true (.faddr 0 (.s 52)),ig 54 48 true (.load1 (.s 53)),ig 55 48 true (.faddr 4 (.s 1)),ig 56 48 true (.load1 (.s 55)),ig 57 48 true (.mv (.s 3)),ig 58 48 true (.bin .sub (.s 57) (.c (.int .i64 1))),ig 59 48 true (.iaddrS 5 (.s 56) (.s 58)),ig 60 48 true (.faddr 0 (.s 59)),ig 61 48 true (.load1 (.s 60)),ig 62 48 true (.bin .leq (.s 54) (.s 61)),iq 63 (.pick (.s 48) (.s 62) (.c (.bool false)))] [])
 (.cond (.s 63)
 (.seq
 (.reg [ik 2 6])
 .ret)
 .skip))))
 (.reg [im 27 3,iq 28 (.bin .add (.s 27) (.c (.int .i64 1))),im 3 28]))))))
 (.seq
 (.reg [iq 64 (.loadn 6 (.s 1)),iq 65 (.build [(.int .i64 0),(ofL []), .snil, .snil, .snil, .snil,(.int .i64 0)] [(0,6,(.s 64))]),iq 66 (.box (.s 65)),im 4 66])
 (.seq
 (.reg [ik 5 0])
 (.seqj [1,4,5]
 (.seq
 (.reg [ik 6 0])
 (.block 2
 (.loop [1,4,5,6]
 (.seqj [1,4,6]
 (.seq
 (.reg [im 67 6,ia 68 4 1,il 69 68,iq 70 (.lenL (.s 69)),iq 71 (.bin .lss (.s 67) (.s 70)),im 72 71,ig 73 72 true (.mv (.s 5)),ig 74 72 true (.eq (.one .i) false (.s 73) (.c (.int .i64 0))),iq 75 (.pick (.s 72) (.s 74) (.c (.bool false)))])
 (.cond (.s 75)
 .skip
 (.exit 2)))
 (.seqj [1,4,5,6]
 (.block 3
 (.reg [im 78 4,ia 79 4 1,il 80 79,im 81 6,iq 82 (.iaddrS 5 (.s 80) (.s 81)),ia 83 1 82,iq 84 (.loadn 4 (.s 83)),iq 85 (.call 49 [.s 78, .s 84,(.c (.int .i64 1))]),im 5 85]))
 (.reg [im 76 6,iq 77 (.bin .add (.s 76) (.c (.int .i64 1))),im 6 77]))))))
 (.seqj [1,4,5]
 (.seq
 (.reg [im 86 5,iq 87 (.eq (.one .i) false (.s 86) (.c (.int .i64 0)))])
 (.cond (.s 87)
 (.reg [im 88 4,ia 89 0 1,iq 90 (.loadn 4 (.s 89)),iq 91 (.call 49 [.s 88, .s 90,(.c (.int .i64 1))]),im 5 91])
 .skip))
 (.seqj [1,4,5]
 (.seq
 (.reg [im 92 5,iq 93 (.eq (.one .i) true (.s 92) (.c (.int .i64 0)))])
 (.cond (.s 93)
 (.seq
 (.reg [im 94 5,im 2 94])
 .ret)
 .skip))
 (.seqj [1]
 (.seq
 (.reg [ik 7 0])
 (.block 4
 (.loop [1,4,5,7]
 (.seqj [1,4,5,7]
 (.seq
 (.reg [im 95 7,ia 96 5 1,il 97 96,iq 98 (.lenL (.s 97)),iq 99 (.bin .lss (.s 95) (.s 98))])
 (.cond (.s 99)
 .skip
 (.exit 4)))
 (.seqj [1,4,5,7]
 (.block 5
 (.seq
 (.reg [ia 102 5 1,il 103 102,im 104 7,iq 105 (.iaddrS 6 (.s 103) (.s 104)),iq 106 (.loadn 6 (.s 105)),iq 8 (.alloc [(ofL []), .snil,(.int .i64 0),(ofL []), .snil, .snil]),iz (.store 6 (.s 8) (.s 106))])
 (.seqj [1,4,5,7,8]
 (.seq
 (.reg [ia 107 0 8,il 108 107,iq 109 (.call 47 [.s 108]),iq 110 (.not (.s 109)),im 111 110,ig 112 111 false (.faddr 0 (.s 8)),ig 113 111 false (.load1 (.s 112)),ig 114 111 false (.call 50 [.s 113]),iq 115 (.pick (.s 111) (.c (.bool true)) (.s 114))])
 (.cond (.s 115)
 (.seq
 (.reg [ik 2 15])
 .ret)
 .skip))
 (.seqj [1,4,5,7,8]
 (.seq
 (.drw [im 116 7,iq 117 (.bin .gtr (.s 116) (.c (.int .i64 0))),im 118 117,ig 119 118 true (.faddr 0 (.s 8)),ig 120 118 true (.load1 (.s 119)),ig 121 118 true (.faddr 5 (.s 1)),ig 122 118 true (.load1 (.s 121)),ig 123 118 true (.mv (.s 7)),ig 124 118 true (.bin .sub (.s 123) (.c (.int .i64 1))),ig 125 118 true (.iaddrS 6 (.s 122) (.s 124)),ig 126 118 true (.faddr 0 (.s 125)),ig 127 118 true (.load1 (.s 126)),ig 128 118 true (.bin .leq (.s 120) (.s 127)),iq 129 (.pick (.s 118) (.s 128) (.c (.bool false)))] [])
 (.cond (.s 129)
 (.seq
 (.reg [ik 2 6])
 .ret)
 .skip))
 (.seqj [1,4,5,7,8]
 (.seq
 (.reg [ia 130 1 8,il 131 130,iq 132 (.lenL (.s 131)),iq 133 (.bin .gtr (.s 132) (.c (.int .i64 4)))])
 (.cond (.s 133)
 (.seq
 (.reg [ik 2 18])
 .ret)
 .skip))
 (.seqj [1,4,5,7,8]
 (.seq
 (.reg [ik 9 0])
 (.block 6
 (.loop [1,4,5,7,8,9]
 (.seqj [1,4,7,8,9]
 (.seq
 (.reg [im 134 9,ia 135 1 8,il 136 135,iq 137 (.lenL (.s 136)),iq 138 (.bin .lss (.s 134) (.s 137)),im 139 138,ig 140 139 true (.mv (.s 5)),ig 141 139 true (.eq (.one .i) false (.s 140) (.c (.int .i64 0))),iq 142 (.pick (.s 139) (.s 141) (.c (.bool false)))])
 (.cond (.s 142)
 .skip
 (.exit 6)))
 (.seqj [1,4,5,7,8,9]
 (.block 7
 (.reg [im 145 4,ia 146 1 8,il 147 146,im 148 9,iq 149 (.iaddrS 4 (.s 147) (.s 148)),iq 150 (.loadn 4 (.s 149)),iq 151 (.call 49 [.s 145, .s 150,(.c (.int .i64 1))]),im 5 151]))
 (.reg [im 143 9,iq 144 (.bin .add (.s 143) (.c (.int .i64 1))),im 9 144]))))))
 (.seqj [1,4,5,7]
 (.seq
 (.reg [im 152 5,iq 153 (.eq (.one .i) false (.s 152) (.c (.int .i64 0)))])
 (.cond (.s 153)
 (.reg [im 154 4,ia 155 2 8,iq 156 (.loadn 4 (.s 155)),iq 157 (.call 49 [.s 154, .s 156,(.c (.int .i64 1))]),im 5 157])
 .skip))
 (.seq
 (.reg [im 158 5,iq 159 (.eq (.one .i) true (.s 158) (.c (.int .i64 0)))])
 (.cond (.s 159)
 (.seq
 (.reg [im 160 5,im 2 160])
 .ret)
 .skip)))))))))
 (.reg [im 100 7,iq 101 (.bin .add (.s 100) (.c (.int .i64 1))),im 7 101]))))))
 (.seqj [1]
 (.seq
 (.drw [iq 161 (.loadn 6 (.s 1)),iq 162 (.call 51 [.s 161]),iq 163 (.lenL (.s 162)),ia 164 4 1,il 165 164,iq 166 (.lenL (.s 165)),iq 167 (.eq (.one .i) true (.s 163) (.s 166))] [])
 (.cond (.s 167)
 (.seq
 (.reg [ik 2 14])
 .ret)
 .skip))
 (.seq
 (.reg [iq 168 (.loadn 6 (.s 1)),iq 169 (.call 52 [.s 168]),im 10 169])
 (.seqj []
 (.seq
 (.reg [ik 11 0])
 (.block 8
 (.loop [1,10,11]
 (.seqj [1,10,11]
 (.seq
 (.reg [im 170 11,im 171 10,iq 172 (.lenL (.s 171)),iq 173 (.bin .lss (.s 170) (.s 172))])
 (.cond (.s 173)
 .skip
 (.exit 8)))
 (.seqj [1,10,11]
 (.block 9
 (.seq
 (.drw [iq 176 (.loadn 6 (.s 1)),im 177 10,im 178 11,iq 179 (.iaddrS 4 (.s 177) (.s 178)),iq 180 (.loadn 4 (.s 179)),⟨(some 181),(.call 53 [.s 176, .s 180]),none,(some [])⟩] [])
 (.cond (.s 181)
 (.seq
 (.reg [ik 2 17])
 .ret)
 .skip)))
 (.reg [im 174 11,iq 175 (.bin .add (.s 174) (.c (.int .i64 1))),im 11 175]))))))
 (.seq
 (.reg [ik 2 0])
 .ret)))))))))))))}
theorem Jpt :compFn Tryz.prog Tryz.f21 [[1],[1],[1,3],[1,3],[1,3],[1,3],[1,4,5],[1,4,5,6],[1,4,6],[1,4,5,6],[1,4,5],[1,4,5],[1],[1,4,5,7],[1,4,5,7],[1,4,5,7],[1,4,5,7,8],[1,4,5,7,8],[1,4,5,7,8],[1,4,5,7,8],[1,4,5,7,8,9],[1,4,7,8,9],[1,4,5,7,8,9],[1,4,5,7],[1],[],[1,10,11],[1,10,11],[1,10,11]]=some KW:=by kernel_rfl
def KX :Eva.Fn:={ntmps:=36,res:=[.s 2],body:=
 (.seq
 (.reg [iq 2 (.mv (.c (.bool false)))])
 (.seqj [0]
 (.seq
 (.reg [im 4 0,iq 5 (.lenS (.s 4)),iq 6 (.eq (.one .i) false (.s 5) (.c (.int .i64 0))),im 7 6,ig 8 7 false (.mv (.s 0)),ig 9 7 false (.lenS (.s 8)),ig 10 7 false (.bin .gtr (.s 9) (.c (.int .i64 16))),iq 11 (.pick (.s 7) (.c (.bool true)) (.s 10)),im 12 11,ig 13 12 false (.mv (.s 0)),ig 14 12 false (.idxS (.s 13) (.c (.int .i64 0))),ig 15 12 false (.call 81 [.s 14]),ig 16 12 false (.not (.s 15)),iq 17 (.pick (.s 12) (.c (.bool true)) (.s 16))])
 (.cond (.s 17)
 (.seq
 (.reg [iq 2 (.mv (.c (.bool false)))])
 .ret)
 .skip))
 (.seqj []
 (.seq
 (.reg [ik 3 0])
 (.block 0
 (.loop [0,3]
 (.seqj [0,3]
 (.seq
 (.reg [im 18 3,im 19 0,iq 20 (.lenS (.s 19)),iq 21 (.bin .lss (.s 18) (.s 20))])
 (.cond (.s 21)
 .skip
 (.exit 0)))
 (.seqj [0,3]
 (.block 1
 (.seq
 (.reg [im 24 0,im 25 3,iq 26 (.idxS (.s 24) (.s 25)),iq 27 (.call 81 [.s 26]),iq 28 (.not (.s 27)),im 29 28,ig 30 29 true (.mv (.s 0)),ig 31 29 true (.mv (.s 3)),ig 32 29 true (.idxS (.s 30) (.s 31)),ig 33 29 true (.call 82 [.s 32]),ig 34 29 true (.not (.s 33)),iq 35 (.pick (.s 29) (.s 34) (.c (.bool false)))])
 (.cond (.s 35)
 (.seq
 (.reg [iq 2 (.mv (.c (.bool false)))])
 .ret)
 .skip)))
 (.reg [im 22 3,iq 23 (.bin .add (.s 22) (.c (.int .i64 1))),im 3 23]))))))
 (.seq
 (.reg [iq 2 (.mv (.c (.bool true)))])
 .ret))))}
theorem Jpu :compFn Tryz.prog Tryz.f47 [[0],[],[0,3],[0,3],[0,3]]=some KX:=by kernel_rfl
def KI :Eva.Fn:={ntmps:=21,res:=[.s 2],body:=
 (.seq
 (.reg [iq 2 (.mv (.c (.bool false)))])
 (.seq
 (.reg [im 3 0,iq 4 (.bin .geq (.s 3) (.c (.int .u8 97))),im 5 4,ig 6 5 true (.mv (.s 0)),ig 7 5 true (.bin .leq (.s 6) (.c (.int .u8 122))),iq 8 (.pick (.s 5) (.s 7) (.c (.bool false))),im 9 8,ig 10 9 false (.mv (.s 0)),ig 11 9 false (.bin .geq (.s 10) (.c (.int .u8 65))),ig 12 9 false (.mv (.s 11)),ig 13 12 true (.mv (.s 0)),ig 14 12 true (.bin .leq (.s 13) (.c (.int .u8 90))),ig 15 9 false (.pick (.s 12) (.s 14) (.c (.bool false))),iq 16 (.pick (.s 9) (.c (.bool true)) (.s 15)),im 17 16,ig 18 17 false (.mv (.s 0)),ig 19 17 false (.eq (.one .i) false (.s 18) (.c (.int .u8 95))),iq 20 (.pick (.s 17) (.c (.bool true)) (.s 19)),im 2 20])
 .ret))}
theorem Jpv :compFn Tryz.prog Tryz.f81 []=some KI:=by kernel_rfl
def KY :Eva.Fn:={ntmps:=9,res:=[.s 2],body:=
 (.seq
 (.reg [iq 2 (.mv (.c (.bool false)))])
 (.seq
 (.reg [im 3 0,iq 4 (.bin .geq (.s 3) (.c (.int .u8 48))),im 5 4,ig 6 5 true (.mv (.s 0)),ig 7 5 true (.bin .leq (.s 6) (.c (.int .u8 57))),iq 8 (.pick (.s 5) (.s 7) (.c (.bool false))),im 2 8])
 .ret))}
theorem Jpw :compFn Tryz.prog Tryz.f82 []=some KY:=by kernel_rfl
def Qe :Eva.Fn:={ntmps:=29,res:=[.s 2],body:=
 (.seq
 (.reg [iq 2 (.mv (.c (.bool false)))])
 (.seq
 (.reg [im 3 0,iq 4 (.eq (.one .s) false (.s 3) (.c (ofL [66,111,111,108]))),im 5 4,ig 6 5 false (.mv (.s 0)),ig 7 5 false (.eq (.one .s) false (.s 6) (.c (ofL [73,110,116]))),iq 8 (.pick (.s 5) (.c (.bool true)) (.s 7)),im 9 8,ig 10 9 false (.mv (.s 0)),ig 11 9 false (.eq (.one .s) false (.s 10) (.c (ofL [84,101,120,116]))),iq 12 (.pick (.s 9) (.c (.bool true)) (.s 11)),im 13 12,ig 14 13 false (.mv (.s 0)),ig 15 13 false (.eq (.one .s) false (.s 14) (.c (ofL [76,105,115,116]))),iq 16 (.pick (.s 13) (.c (.bool true)) (.s 15)),im 17 16,ig 18 17 false (.mv (.s 0)),ig 19 17 false (.eq (.one .s) false (.s 18) (.c (ofL [77,97,112]))),iq 20 (.pick (.s 17) (.c (.bool true)) (.s 19)),im 21 20,ig 22 21 false (.mv (.s 0)),ig 23 21 false (.eq (.one .s) false (.s 22) (.c (ofL [79,112,116]))),iq 24 (.pick (.s 21) (.c (.bool true)) (.s 23)),im 25 24,ig 26 25 false (.mv (.s 0)),ig 27 25 false (.eq (.one .s) false (.s 26) (.c (ofL [85,110,105,111,110]))),iq 28 (.pick (.s 25) (.c (.bool true)) (.s 27)),im 2 28])
 .ret))}
theorem Jpx :compFn Tryz.prog Tryz.f48 []=some Qe:=by kernel_rfl
def Kg :Eva.Fn:={ntmps:=50,res:=[.s 6],body:=
 (.seq
 (.reg [iq 4 (.box (.s 1)),ik 6 0])
 (.seq
 (.reg [im 9 0,iq 10 (.nilck (.s 9)),ia 11 6 10,il 12 11,iq 13 (.bin .add (.s 12) (.c (.int .i64 1))),iq 14 (.nilck (.s 9)),ia 15 6 14,iz (.store 1 (.s 15) (.s 13))])
 (.seqj [0,2,4]
 (.seq
 (.reg [im 16 0,iq 17 (.nilck (.s 16)),ia 18 6 17,il 19 18,iq 20 (.bin .gtr (.s 19) (.c (.int .i64 400)))])
 (.cond (.s 20)
 (.seq
 (.reg [ik 6 3])
 .ret)
 .skip))
 (.seqj [0,2,4]
 (.seq
 (.reg [im 21 2,iq 22 (.bin .gtr (.s 21) (.c (.int .i64 12)))])
 (.cond (.s 22)
 (.seq
 (.reg [ik 6 13])
 .ret)
 .skip))
 (.seq
 (.drw [im 23 0,iq 24 (.nilck (.s 23)),ia 25 0 24,iq 26 (.loadn 6 (.s 25)),iq 27 (.loadn 4 (.s 4)),⟨(some 28),(.call 83 [.s 26, .s 27]),none,(some [])⟩,im 7 28] [])
 (.seqj [7]
 (.seq
 (.reg [ik 8 0])
 (.block 0
 (.loop [0,2,4,7,8]
 (.seqj [0,2,4,8]
 (.seq
 (.reg [im 29 8,ia 30 3 4,il 31 30,iq 32 (.lenL (.s 31)),iq 33 (.bin .lss (.s 29) (.s 32)),im 34 33,ig 35 34 true (.mv (.s 7)),ig 36 34 true (.eq (.one .i) false (.s 35) (.c (.int .i64 0))),iq 37 (.pick (.s 34) (.s 36) (.c (.bool false)))])
 (.cond (.s 37)
 .skip
 (.exit 0)))
 (.seqj [0,2,4,7,8]
 (.block 1
 (.reg [im 40 0,ia 41 3 4,il 42 41,im 43 8,iq 44 (.iaddrS 4 (.s 42) (.s 43)),iq 45 (.loadn 4 (.s 44)),im 46 2,iq 47 (.bin .add (.s 46) (.c (.int .i64 1))),iq 48 (.call 49 [.s 40, .s 45, .s 47]),im 7 48]))
 (.reg [im 38 8,iq 39 (.bin .add (.s 38) (.c (.int .i64 1))),im 8 39]))))))
 (.seq
 (.reg [im 49 7,im 6 49])
 .ret)))))))}
theorem Jpy :compFn Tryz.prog Tryz.f49 [[0,2,4],[0,2,4],[7],[0,2,4,7,8],[0,2,4,8],[0,2,4,7,8]]=some Kg:=by kernel_rfl
def Qz :Eva.Fn:={ntmps:=118,res:=[.s 4],body:=
 (.seq
 (.reg [iq 2 (.box (.s 0)),iq 3 (.box (.s 1)),ik 4 0])
 (.seqj [2,3]
 (.seq
 (.reg [ia 10 0 3,il 11 10,iq 12 (.bin .lss (.s 11) (.c (.int .i64 1))),im 13 12,ig 14 13 false (.faddr 0 (.s 3)),ig 15 13 false (.load1 (.s 14)),ig 16 13 false (.bin .gtr (.s 15) (.c (.int .i64 9))),iq 17 (.pick (.s 13) (.c (.bool true)) (.s 16))])
 (.cond (.s 17)
 (.seq
 (.reg [ik 4 1])
 .ret)
 .skip))
 (.seq
 (.reg [ik 5 0])
 (.seqj [2,3,5]
 (.seq
 (.reg [ia 18 0 3,il 19 18])
 (.block 0
 (.seqj [2,3,5,19,20]
 (.seq
 (.reg [iq 21 (.eq (.one .i) false (.s 19) (.c (.int .i64 4))),im 20 21])
 (.cond (.s 20)
 .skip
 (.seq
 (.reg [iq 22 (.eq (.one .i) false (.s 19) (.c (.int .i64 5))),im 20 22])
 (.cond (.s 20)
 .skip
 (.reg [iq 23 (.eq (.one .i) false (.s 19) (.c (.int .i64 6))),im 20 23])))))
 (.cond (.s 20)
 (.reg [ik 5 1])
 (.seqj [2,3,5,24]
 (.seq
 (.reg [iq 25 (.eq (.one .i) false (.s 19) (.c (.int .i64 7))),im 24 25])
 (.cond (.s 24)
 .skip
 (.reg [iq 26 (.eq (.one .i) false (.s 19) (.c (.int .i64 8))),im 24 26])))
 (.cond (.s 24)
 (.reg [ia 27 2 3,il 28 27,iq 29 (.lenL (.s 28)),im 5 29])
 .skip))))))
 (.seq
 (.reg [ia 30 0 3,il 31 30,iq 32 (.eq (.one .i) false (.s 31) (.c (.int .i64 7))),im 33 32,ig 34 33 false (.faddr 0 (.s 3)),ig 35 33 false (.load1 (.s 34)),ig 36 33 false (.eq (.one .i) false (.s 35) (.c (.int .i64 8))),iq 37 (.pick (.s 33) (.c (.bool true)) (.s 36)),im 6 37])
 (.seqj [2,3]
 (.seq
 (.reg [ia 38 3 3,il 39 38,iq 40 (.lenL (.s 39)),im 41 5,iq 42 (.eq (.one .i) true (.s 40) (.s 41)),im 43 42,ig 44 43 false (.faddr 0 (.s 3)),ig 45 43 false (.load1 (.s 44)),ig 46 43 false (.eq (.one .i) true (.s 45) (.c (.int .i64 9))),ig 47 43 false (.mv (.s 46)),ig 48 47 true (.faddr 1 (.s 3)),ig 49 47 true (.load1 (.s 48)),ig 50 47 true (.eq (.one .s) true (.s 49) (.c (ofL []))),ig 51 43 false (.pick (.s 47) (.s 50) (.c (.bool false))),iq 52 (.pick (.s 43) (.c (.bool true)) (.s 51)),im 53 52,ig 54 53 false (.mv (.s 6)),ig 55 53 false (.not (.s 54)),ig 56 53 false (.mv (.s 55)),ig 57 56 true (.faddr 2 (.s 3)),ig 58 56 true (.load1 (.s 57)),ig 59 56 true (.lenL (.s 58)),ig 60 56 true (.eq (.one .i) true (.s 59) (.c (.int .i64 0))),ig 61 53 false (.pick (.s 56) (.s 60) (.c (.bool false))),iq 62 (.pick (.s 53) (.c (.bool true)) (.s 61))])
 (.cond (.s 62)
 (.seq
 (.reg [ik 4 12])
 .ret)
 .skip))
 (.seqj [3]
 (.seq
 (.reg [ia 63 0 3,il 64 63,iq 65 (.eq (.one .i) false (.s 64) (.c (.int .i64 9)))])
 (.cond (.s 65)
 (.seq
 (.reg [iq 67 (.loadn 6 (.s 2)),ia 68 1 3,il 69 68,iq 70 (.call 114 [.s 67, .s 69]),im 66 70,ie 71 0 66,ie 72 1 66,iq 7 (.alloc [(.int .i64 0),(ofL []), .snil, .snil]),iz (.store 4 (.s 7) (.s 71)),im 8 72])
 (.seq
 (.reg [im 73 8,iq 74 (.not (.s 73))])
 (.cond (.s 74)
 (.seq
 (.reg [ik 4 15])
 .ret)
 .skip)))
 .skip))
 (.seqj [3]
 (.seq
 (.reg [ia 75 2 3,il 76 75,iq 77 (.lenL (.s 76)),iq 78 (.bin .gtr (.s 77) (.c (.int .i64 8)))])
 (.cond (.s 78)
 (.seq
 (.reg [ik 4 3])
 .ret)
 .skip))
 (.seqj [3]
 (.seq
 (.reg [ik 9 0])
 (.block 1
 (.loop [3,9]
 (.seqj [3,9]
 (.seq
 (.reg [im 79 9,ia 80 2 3,il 81 80,iq 82 (.lenL (.s 81)),iq 83 (.bin .lss (.s 79) (.s 82))])
 (.cond (.s 83)
 .skip
 (.exit 1)))
 (.seqj [3,9]
 (.block 2
 (.seqj [3,9]
 (.seq
 (.reg [ia 86 2 3,il 87 86,im 88 9,iq 89 (.iaddrS 1 (.s 87) (.s 88)),il 90 89,iq 91 (.call 47 [.s 90]),iq 92 (.not (.s 91))])
 (.cond (.s 92)
 (.seq
 (.reg [ik 4 15])
 .ret)
 .skip))
 (.seq
 (.drw [im 93 9,iq 94 (.bin .gtr (.s 93) (.c (.int .i64 0))),im 95 94,ig 96 95 true (.faddr 2 (.s 3)),ig 97 95 true (.load1 (.s 96)),ig 98 95 true (.mv (.s 9)),ig 99 95 true (.iaddrS 1 (.s 97) (.s 98)),ig 100 95 true (.load1 (.s 99)),ig 101 95 true (.faddr 2 (.s 3)),ig 102 95 true (.load1 (.s 101)),ig 103 95 true (.mv (.s 9)),ig 104 95 true (.bin .sub (.s 103) (.c (.int .i64 1))),ig 105 95 true (.iaddrS 1 (.s 102) (.s 104)),ig 106 95 true (.load1 (.s 105)),ig 107 95 true (.bin .leq (.s 100) (.s 106)),iq 108 (.pick (.s 95) (.s 107) (.c (.bool false)))] [])
 (.cond (.s 108)
 (.seq
 (.reg [ik 4 6])
 .ret)
 .skip))))
 (.reg [im 84 9,iq 85 (.bin .add (.s 84) (.c (.int .i64 1))),im 9 85]))))))
 (.seqj []
 (.seq
 (.reg [ia 109 0 3,il 110 109,iq 111 (.eq (.one .i) false (.s 110) (.c (.int .i64 8))),im 112 111,ig 113 112 true (.faddr 2 (.s 3)),ig 114 112 true (.load1 (.s 113)),ig 115 112 true (.lenL (.s 114)),ig 116 112 true (.eq (.one .i) false (.s 115) (.c (.int .i64 0))),iq 117 (.pick (.s 112) (.s 116) (.c (.bool false)))])
 (.cond (.s 117)
 (.seq
 (.reg [ik 4 12])
 .ret)
 .skip))
 (.seq
 (.reg [ik 4 0])
 .ret)))))))))))}
theorem Jpz :compFn Tryz.prog Tryz.f83 [[2,3],[2,3,5],[2,3,5,19,20],[2,3,5,24],[2,3],[3],[3],[3],[3,9],[3,9],[3,9],[3,9],[]]=some Qz:=by kernel_rfl
def QA :Eva.Fn:={ntmps:=29,res:=[(.cn 4 4), .s 5],body:=
 (.seq
 (.reg [iq 2 (.box (.s 0)),iq 4 (.alloc [(.int .i64 0),(ofL []), .snil, .snil]),iq 5 (.mv (.c (.bool false)))])
 (.seqj [4]
 (.seq
 (.reg [ik 6 0])
 (.block 0
 (.loop [1,2,4,6]
 (.seqj [1,2,4,6]
 (.seq
 (.reg [im 7 6,ia 8 4 2,il 9 8,iq 10 (.lenL (.s 9)),iq 11 (.bin .lss (.s 7) (.s 10))])
 (.cond (.s 11)
 .skip
 (.exit 0)))
 (.seqj [1,2,4,6]
 (.block 1
 (.seq
 (.reg [ia 14 4 2,il 15 14,im 16 6,iq 17 (.iaddrS 5 (.s 15) (.s 16)),ia 18 0 17,il 19 18,im 20 1,iq 21 (.eq (.one .s) false (.s 19) (.s 20))])
 (.cond (.s 21)
 (.seq
 (.reg [ia 22 4 2,il 23 22,im 24 6,iq 25 (.iaddrS 5 (.s 23) (.s 24)),ia 26 1 25,iq 27 (.loadn 4 (.s 26)),iz (.store 4 (.s 4) (.s 27)),iq 5 (.mv (.c (.bool true)))])
 .ret)
 .skip)))
 (.reg [im 12 6,iq 13 (.bin .add (.s 12) (.c (.int .i64 1))),im 6 13]))))))
 (.seq
 (.reg [iq 28 (.build [(.int .i64 0),(ofL []), .snil, .snil] []),iz (.store 4 (.s 4) (.s 28)),iq 5 (.mv (.c (.bool false)))])
 .ret)))}
theorem Jnj :compFn Tryz.prog Tryz.f114 [[4],[1,2,4,6],[1,2,4,6],[1,2,4,6]]=some QA:=by kernel_rfl
def Kw :Eva.Fn:={ntmps:=28,res:=[.s 2],body:=
 (.seq
 (.reg [iq 2 (.mv (.c (.bool false)))])
 (.seqj []
 (.seq
 (.reg [im 3 0])
 (.block 0
 (.seqj [4]
 (.seq
 (.reg [iq 5 (.eq (.one .s) false (.s 3) (.c (ofL [108,101,110]))),im 4 5])
 (.cond (.s 4)
 .skip
 (.seq
 (.reg [iq 6 (.eq (.one .s) false (.s 3) (.c (ofL [110,111,116]))),im 4 6])
 (.cond (.s 4)
 .skip
 (.seq
 (.reg [iq 7 (.eq (.one .s) false (.s 3) (.c (ofL [97,110,100]))),im 4 7])
 (.cond (.s 4)
 .skip
 (.seq
 (.reg [iq 8 (.eq (.one .s) false (.s 3) (.c (ofL [111,114]))),im 4 8])
 (.cond (.s 4)
 .skip
 (.seq
 (.reg [iq 9 (.eq (.one .s) false (.s 3) (.c (ofL [101,113]))),im 4 9])
 (.cond (.s 4)
 .skip
 (.seq
 (.reg [iq 10 (.eq (.one .s) false (.s 3) (.c (ofL [108,116]))),im 4 10])
 (.cond (.s 4)
 .skip
 (.seq
 (.reg [iq 11 (.eq (.one .s) false (.s 3) (.c (ofL [97,100,100]))),im 4 11])
 (.cond (.s 4)
 .skip
 (.seq
 (.reg [iq 12 (.eq (.one .s) false (.s 3) (.c (ofL [115,117,98]))),im 4 12])
 (.cond (.s 4)
 .skip
 (.seq
 (.reg [iq 13 (.eq (.one .s) false (.s 3) (.c (ofL [109,117,108]))),im 4 13])
 (.cond (.s 4)
 .skip
 (.seq
 (.reg [iq 14 (.eq (.one .s) false (.s 3) (.c (ofL [115,104,108]))),im 4 14])
 (.cond (.s 4)
 .skip
 (.seq
 (.reg [iq 15 (.eq (.one .s) false (.s 3) (.c (ofL [115,104,114]))),im 4 15])
 (.cond (.s 4)
 .skip
 (.seq
 (.reg [iq 16 (.eq (.one .s) false (.s 3) (.c (ofL [105,56]))),im 4 16])
 (.cond (.s 4)
 .skip
 (.seq
 (.reg [iq 17 (.eq (.one .s) false (.s 3) (.c (ofL [105,49,54]))),im 4 17])
 (.cond (.s 4)
 .skip
 (.seq
 (.reg [iq 18 (.eq (.one .s) false (.s 3) (.c (ofL [105,51,50]))),im 4 18])
 (.cond (.s 4)
 .skip
 (.seq
 (.reg [iq 19 (.eq (.one .s) false (.s 3) (.c (ofL [117,56]))),im 4 19])
 (.cond (.s 4)
 .skip
 (.seq
 (.reg [iq 20 (.eq (.one .s) false (.s 3) (.c (ofL [117,49,54]))),im 4 20])
 (.cond (.s 4)
 .skip
 (.seq
 (.reg [iq 21 (.eq (.one .s) false (.s 3) (.c (ofL [117,51,50]))),im 4 21])
 (.cond (.s 4)
 .skip
 (.seq
 (.reg [iq 22 (.eq (.one .s) false (.s 3) (.c (ofL [99,97,116]))),im 4 22])
 (.cond (.s 4)
 .skip
 (.seq
 (.reg [iq 23 (.eq (.one .s) false (.s 3) (.c (ofL [116,101,120,116]))),im 4 23])
 (.cond (.s 4)
 .skip
 (.seq
 (.reg [iq 24 (.eq (.one .s) false (.s 3) (.c (ofL [97,116]))),im 4 24])
 (.cond (.s 4)
 .skip
 (.seq
 (.reg [iq 25 (.eq (.one .s) false (.s 3) (.c (ofL [103,101,116]))),im 4 25])
 (.cond (.s 4)
 .skip
 (.seq
 (.reg [iq 26 (.eq (.one .s) false (.s 3) (.c (ofL [104,97,115]))),im 4 26])
 (.cond (.s 4)
 .skip
 (.reg [iq 27 (.eq (.one .s) false (.s 3) (.c (ofL [111,114,101,108,115,101]))),im 4 27])))))))))))))))))))))))))))))))))))))))))))))
 (.cond (.s 4)
 (.seq
 (.reg [iq 2 (.mv (.c (.bool true)))])
 .ret)
 .skip))))
 (.seq
 (.reg [iq 2 (.mv (.c (.bool false)))])
 .ret)))}
theorem JpA :compFn Tryz.prog Tryz.f50 [[],[4]]=some Kw:=by kernel_rfl
def KJ :Eva.Fn:={ntmps:=40,res:=[.s 2],body:=
 (.seq
 (.reg [iq 1 (.box (.s 0)),iq 2 (.mv (.c .snil))])
 (.seq
 (.reg [iq 3 (.mv (.c .snil))])
 (.seqj [3]
 (.seq
 (.reg [ik 4 0])
 (.block 0
 (.loop [1,3,4]
 (.seqj [1,3,4]
 (.seq
 (.reg [im 7 4,ia 8 4 1,il 9 8,iq 10 (.lenL (.s 9)),iq 11 (.bin .leq (.s 7) (.s 10))])
 (.cond (.s 11)
 .skip
 (.exit 0)))
 (.seqj [1,3,4]
 (.block 1
 (.seq
 (.reg [iq 5 (.mv (.c .snil))])
 (.seqj [1,4,5]
 (.seq
 (.reg [ik 6 0])
 (.block 2
 (.loop [1,3,4,5,6]
 (.seqj [1,3,4,5,6]
 (.seq
 (.reg [im 14 6,ia 15 4 1,il 16 15,iq 17 (.lenL (.s 16)),iq 18 (.bin .lss (.s 14) (.s 17))])
 (.cond (.s 18)
 .skip
 (.exit 2)))
 (.seqj [1,3,4,5,6]
 (.block 3
 (.seq
 (.reg [im 21 3,ia 22 4 1,il 23 22,im 24 6,iq 25 (.iaddrS 5 (.s 23) (.s 24)),ia 26 1 25,iq 27 (.loadn 4 (.s 26)),iq 28 (.call 84 [.s 21, .s 27])])
 (.cond (.s 28)
 (.reg [im 29 5,ia 30 4 1,il 31 30,im 32 6,iq 33 (.iaddrS 5 (.s 31) (.s 32)),ia 34 0 33,il 35 34,iq 36 (.bsl 1 1 [(ofL [])] [(0,1,(.s 35))]),iq 37 (.app 1 (.s 29) (.s 36)),im 5 37])
 .skip)))
 (.reg [im 19 6,iq 20 (.bin .add (.s 19) (.c (.int .i64 1))),im 6 20]))))))
 (.reg [im 38 5,im 3 38]))))
 (.reg [im 12 4,iq 13 (.bin .add (.s 12) (.c (.int .i64 1))),im 4 13]))))))
 (.seq
 (.reg [im 39 3,im 2 39])
 .ret))))}
theorem JpB :compFn Tryz.prog Tryz.f51 [[3],[1,3,4],[1,3,4],[1,3,4],[1,4,5],[1,3,4,5,6],[1,3,4,5,6],[1,3,4,5,6]]=some KJ:=by kernel_rfl
def Qf :Eva.Fn:={ntmps:=48,res:=[.s 4],body:=
 (.seq
 (.reg [iq 3 (.box (.s 1)),iq 4 (.mv (.c (.bool false)))])
 (.seqj []
 (.seq
 (.reg [ia 7 0 3,il 8 7])
 (.block 0
 (.seq
 (.reg [iq 10 (.eq (.one .i) false (.s 8) (.c (.int .i64 7))),im 9 10])
 (.cond (.s 9)
 (.seqj []
 (.seq
 (.reg [ik 5 0])
 (.block 1
 (.loop [0,3,5]
 (.seqj [0,3,5]
 (.seq
 (.reg [im 11 5,ia 12 3 3,il 13 12,iq 14 (.lenL (.s 13)),iq 15 (.bin .lss (.s 11) (.s 14))])
 (.cond (.s 15)
 .skip
 (.exit 1)))
 (.seqj [0,3,5]
 (.block 2
 (.seq
 (.reg [im 18 0,ia 19 3 3,il 20 19,im 21 5,iq 22 (.iaddrS 4 (.s 20) (.s 21)),iq 23 (.loadn 4 (.s 22)),iq 24 (.call 84 [.s 18, .s 23]),iq 25 (.not (.s 24))])
 (.cond (.s 25)
 (.seq
 (.reg [iq 4 (.mv (.c (.bool false)))])
 .ret)
 .skip)))
 (.reg [im 16 5,iq 17 (.bin .add (.s 16) (.c (.int .i64 1))),im 5 17]))))))
 (.seq
 (.reg [iq 4 (.mv (.c (.bool true)))])
 .ret))
 (.seq
 (.reg [iq 27 (.eq (.one .i) false (.s 8) (.c (.int .i64 8))),im 26 27])
 (.cond (.s 26)
 (.seqj []
 (.seq
 (.reg [ik 6 0])
 (.block 3
 (.loop [0,3,6]
 (.seqj [0,3,6]
 (.seq
 (.reg [im 28 6,ia 29 3 3,il 30 29,iq 31 (.lenL (.s 30)),iq 32 (.bin .lss (.s 28) (.s 31))])
 (.cond (.s 32)
 .skip
 (.exit 3)))
 (.seqj [0,3,6]
 (.block 4
 (.seq
 (.reg [im 35 0,ia 36 3 3,il 37 36,im 38 6,iq 39 (.iaddrS 4 (.s 37) (.s 38)),iq 40 (.loadn 4 (.s 39)),iq 41 (.call 84 [.s 35, .s 40])])
 (.cond (.s 41)
 (.seq
 (.reg [iq 4 (.mv (.c (.bool true)))])
 .ret)
 .skip)))
 (.reg [im 33 6,iq 34 (.bin .add (.s 33) (.c (.int .i64 1))),im 6 34]))))))
 (.seq
 (.reg [iq 4 (.mv (.c (.bool false)))])
 .ret))
 (.seq
 (.reg [iq 43 (.eq (.one .i) false (.s 8) (.c (.int .i64 9))),im 42 43])
 (.cond (.s 42)
 (.seq
 (.reg [im 44 0,ia 45 1 3,il 46 45,iq 47 (.call 115 [.s 44, .s 46]),im 4 47])
 .ret)
 .skip))))))))
 (.seq
 (.reg [iq 4 (.mv (.c (.bool true)))])
 .ret)))}
theorem JpC :compFn Tryz.prog Tryz.f84 [[],[],[0,3,5],[0,3,5],[0,3,5],[],[0,3,6],[0,3,6],[0,3,6]]=some Qf:=by kernel_rfl
def QQ :Eva.Fn:={ntmps:=18,res:=[.s 4],body:=
 (.seq
 (.reg [iq 4 (.mv (.c (.bool false)))])
 (.seqj []
 (.seq
 (.reg [ik 5 0])
 (.block 0
 (.loop [0,1,5]
 (.seqj [0,1,5]
 (.seq
 (.reg [im 6 5,im 7 0,iq 8 (.lenL (.s 7)),iq 9 (.bin .lss (.s 6) (.s 8))])
 (.cond (.s 9)
 .skip
 (.exit 0)))
 (.seqj [0,1,5]
 (.block 1
 (.seq
 (.reg [im 12 0,im 13 5,iq 14 (.iaddrS 1 (.s 12) (.s 13)),il 15 14,im 16 1,iq 17 (.eq (.one .s) false (.s 15) (.s 16))])
 (.cond (.s 17)
 (.seq
 (.reg [iq 4 (.mv (.c (.bool true)))])
 .ret)
 .skip)))
 (.reg [im 10 5,iq 11 (.bin .add (.s 10) (.c (.int .i64 1))),im 5 11]))))))
 (.seq
 (.reg [iq 4 (.mv (.c (.bool false)))])
 .ret)))}
theorem Jnk :compFn Tryz.prog Tryz.f115 [[],[0,1,5],[0,1,5],[0,1,5]]=some QQ:=by kernel_rfl
def QB :Eva.Fn:={ntmps:=52,res:=[.s 2],body:=
 (.seq
 (.reg [iq 1 (.box (.s 0)),iq 2 (.mv (.c .snil))])
 (.seq
 (.reg [iq 3 (.mv (.c .snil))])
 (.seqj [1,3]
 (.seq
 (.reg [ik 4 0])
 (.block 0
 (.loop [1,3,4]
 (.seqj [1,3,4]
 (.seq
 (.reg [im 6 4,ia 7 4 1,il 8 7,iq 9 (.lenL (.s 8)),iq 10 (.bin .lss (.s 6) (.s 9))])
 (.cond (.s 10)
 .skip
 (.exit 0)))
 (.seqj [1,3,4]
 (.block 1
 (.reg [im 13 3,ia 14 4 1,il 15 14,im 16 4,iq 17 (.iaddrS 5 (.s 15) (.s 16)),ia 18 1 17,iq 19 (.loadn 4 (.s 18)),iq 20 (.bsl 4 1 [(.int .i64 0),(ofL []), .snil, .snil] [(0,4,(.s 19))]),iq 21 (.app 4 (.s 13) (.s 20)),im 3 21]))
 (.reg [im 11 4,iq 12 (.bin .add (.s 11) (.c (.int .i64 1))),im 4 12]))))))
 (.seq
 (.reg [im 22 3,ia 23 0 1,iq 24 (.loadn 4 (.s 23)),iq 25 (.bsl 4 1 [(.int .i64 0),(ofL []), .snil, .snil] [(0,4,(.s 24))]),iq 26 (.app 4 (.s 22) (.s 25)),im 3 26])
 (.seqj [3]
 (.seq
 (.reg [ik 5 0])
 (.block 2
 (.loop [1,3,5]
 (.seqj [1,3,5]
 (.seq
 (.reg [im 27 5,ia 28 5 1,il 29 28,iq 30 (.lenL (.s 29)),iq 31 (.bin .lss (.s 27) (.s 30))])
 (.cond (.s 31)
 .skip
 (.exit 2)))
 (.seqj [1,3,5]
 (.block 3
 (.seq
 (.reg [im 34 3,ia 35 5 1,il 36 35,im 37 5,iq 38 (.iaddrS 6 (.s 36) (.s 37)),ia 39 1 38,il 40 39,iq 41 (.app 4 (.s 34) (.s 40)),im 3 41])
 (.reg [im 42 3,ia 43 5 1,il 44 43,im 45 5,iq 46 (.iaddrS 6 (.s 44) (.s 45)),ia 47 2 46,iq 48 (.loadn 4 (.s 47)),iq 49 (.bsl 4 1 [(.int .i64 0),(ofL []), .snil, .snil] [(0,4,(.s 48))]),iq 50 (.app 4 (.s 42) (.s 49)),im 3 50])))
 (.reg [im 32 5,iq 33 (.bin .add (.s 32) (.c (.int .i64 1))),im 5 33]))))))
 (.seq
 (.reg [im 51 3,im 2 51])
 .ret))))))}
theorem JpD :compFn Tryz.prog Tryz.f52 [[1,3],[1,3,4],[1,3,4],[1,3,4],[3],[1,3,5],[1,3,5],[1,3,5]]=some QB:=by kernel_rfl
def Qg :Eva.Fn:={ntmps:=33,res:=[.s 4],body:=
 (.seq
 (.reg [iq 2 (.box (.s 0)),iq 3 (.box (.s 1)),iq 4 (.mv (.c (.bool false)))])
 (.seqj [2,3]
 (.seq
 (.drw [ia 6 0 3,il 7 6,iq 8 (.eq (.one .i) false (.s 7) (.c (.int .i64 6))),im 9 8,ig 10 9 true (.loadn 6 (.s 2)),ig 11 9 true (.faddr 3 (.s 3)),ig 12 9 true (.load1 (.s 11)),ig 13 9 true (.iaddrS 4 (.s 12) (.c (.int .i64 0))),ig 14 9 true (.loadn 4 (.s 13)),⟨(some 15),(.call 85 [.s 10, .s 14]),(some (9,true)),(some [])⟩,ig 16 9 true (.fld 0 none (.s 15)),ig 17 9 true (.eq (.one .i) false (.s 16) (.c (.int .i64 6))),iq 18 (.pick (.s 9) (.s 17) (.c (.bool false)))] [])
 (.cond (.s 18)
 (.seq
 (.reg [iq 4 (.mv (.c (.bool true)))])
 .ret)
 .skip))
 (.seqj []
 (.seq
 (.reg [ik 5 0])
 (.block 0
 (.loop [2,3,5]
 (.seqj [2,3,5]
 (.seq
 (.reg [im 19 5,ia 20 3 3,il 21 20,iq 22 (.lenL (.s 21)),iq 23 (.bin .lss (.s 19) (.s 22))])
 (.cond (.s 23)
 .skip
 (.exit 0)))
 (.seqj [2,3,5]
 (.block 1
 (.seq
 (.drw [iq 26 (.loadn 6 (.s 2)),ia 27 3 3,il 28 27,im 29 5,iq 30 (.iaddrS 4 (.s 28) (.s 29)),iq 31 (.loadn 4 (.s 30)),⟨(some 32),(.call 53 [.s 26, .s 31]),none,(some [])⟩] [])
 (.cond (.s 32)
 (.seq
 (.reg [iq 4 (.mv (.c (.bool true)))])
 .ret)
 .skip)))
 (.reg [im 24 5,iq 25 (.bin .add (.s 24) (.c (.int .i64 1))),im 5 25]))))))
 (.seq
 (.reg [iq 4 (.mv (.c (.bool false)))])
 .ret))))}
theorem JpE :compFn Tryz.prog Tryz.f53 [[2,3],[],[2,3,5],[2,3,5],[2,3,5]]=some Qg:=by kernel_rfl
def Qh :Eva.Fn:={ntmps:=26,res:=[(.cn 4 4)],body:=
 (.seq
 (.reg [iq 2 (.box (.s 0)),iq 3 (.box (.s 1)),iq 4 (.alloc [(.int .i64 0),(ofL []), .snil, .snil])])
 (.seqj [3,4]
 (.seq
 (.reg [ik 5 0])
 (.block 0
 (.loop [2,3,4,5]
 (.seqj [2,3,4,5]
 (.seq
 (.reg [im 6 5,ia 7 4 2,il 8 7,iq 9 (.lenL (.s 8)),iq 10 (.bin .leq (.s 6) (.s 9)),im 11 10,ig 12 11 true (.faddr 0 (.s 3)),ig 13 11 true (.load1 (.s 12)),ig 14 11 true (.eq (.one .i) false (.s 13) (.c (.int .i64 9))),iq 15 (.pick (.s 11) (.s 14) (.c (.bool false)))])
 (.cond (.s 15)
 .skip
 (.exit 0)))
 (.seqj [2,3,4,5]
 (.block 1
 (.reg [iq 19 (.loadn 6 (.s 2)),ia 20 1 3,il 21 20,iq 22 (.call 114 [.s 19, .s 21]),im 18 22,ie 23 0 18,ie 24 1 18,iz (.store 4 (.s 3) (.s 23))]))
 (.reg [im 16 5,iq 17 (.bin .add (.s 16) (.c (.int .i64 1))),im 5 17]))))))
 (.seq
 (.reg [iq 25 (.loadn 4 (.s 3)),iz (.store 4 (.s 4) (.s 25))])
 .ret)))}
theorem JpF :compFn Tryz.prog Tryz.f85 [[3,4],[2,3,4,5],[2,3,4,5],[2,3,4,5]]=some Qh:=by kernel_rfl
def Kb :Eva.Fn:={ntmps:=98,res:=[.s 4, .s 5],body:=
 (.seq
 (.reg [iq 3 (.box (.s 1)),ik 4 0,ik 5 0])
 (.seq
 (.drw [ia 11 0 3,il 12 11,ia 13 1 3,il 14 13,iq 15 (.bsl 1 0 [] []),ia 16 2 3,il 17 16,iq 18 (.app 1 (.s 15) (.s 17)),iq 19 (.build [(.int .i64 0),(ofL []), .snil, .snil] [(0,1,(.s 12)),(1,1,(.s 14)),(2,1,(.s 18))]),iq 6 (.alloc [(.int .i64 0),(ofL []), .snil, .snil]),iz (.store 4 (.s 6) (.s 19))] [([15],[11]),([15],[13])])
 (.seqj [0,3,6]
 (.seq
 (.reg [ik 7 0])
 (.block 0
 (.loop [0,3,6,7]
 (.seqj [0,3,6,7]
 (.seq
 (.reg [im 20 7,ia 21 3 3,il 22 21,iq 23 (.lenL (.s 22)),iq 24 (.bin .lss (.s 20) (.s 23))])
 (.cond (.s 24)
 .skip
 (.exit 0)))
 (.seqj [0,3,6,7]
 (.block 1
 (.seq
 (.reg [im 28 0,ia 29 3 3,il 30 29,im 31 7,iq 32 (.iaddrS 4 (.s 30) (.s 31)),iq 33 (.loadn 4 (.s 32)),iq 34 (.call 22 [.s 28, .s 33]),im 27 34,ie 35 0 27,ie 36 1 27,im 8 35,im 9 36])
 (.seqj [0,3,6,7,8]
 (.seq
 (.reg [im 37 9,iq 38 (.eq (.one .i) true (.s 37) (.c (.int .i64 0)))])
 (.cond (.s 38)
 (.seq
 (.reg [im 39 9,ik 4 0,im 5 39])
 .ret)
 .skip))
 (.reg [ia 40 3 6,il 41 40,im 42 8,iq 43 (.bsl 1 1 [(.int .i64 0)] [(0,1,(.s 42))]),iq 44 (.app 1 (.s 41) (.s 43)),ia 45 3 6,iz (.store 1 (.s 45) (.s 44))]))))
 (.reg [im 25 7,iq 26 (.bin .add (.s 25) (.c (.int .i64 1))),im 7 26]))))))
 (.seqj [0,3,6]
 (.seq
 (.reg [ik 10 0])
 (.block 2
 (.loop [0,3,6,10]
 (.seqj [0,3,6,10]
 (.seq
 (.reg [im 46 10,im 47 0,iq 48 (.nilck (.s 47)),ia 49 1 48,il 50 49,iq 51 (.lenL (.s 50)),iq 52 (.bin .lss (.s 46) (.s 51))])
 (.cond (.s 52)
 .skip
 (.exit 2)))
 (.seqj [0,3,6,10]
 (.block 3
 (.seq
 (.drw [im 55 0,iq 56 (.nilck (.s 55)),ia 57 1 56,il 58 57,im 59 10,iq 60 (.iaddrS 4 (.s 58) (.s 59)),iq 61 (.loadn 4 (.s 60)),iq 62 (.loadn 4 (.s 3)),⟨(some 63),(.call 54 [.s 61, .s 62]),none,(some [])⟩] [])
 (.cond (.s 63)
 (.seq
 (.reg [im 64 10,im 4 64,ik 5 0])
 .ret)
 .skip)))
 (.reg [im 53 10,iq 54 (.bin .add (.s 53) (.c (.int .i64 1))),im 10 54]))))))
 (.seqj [0,3,6]
 (.seq
 (.reg [im 65 0,iq 66 (.nilck (.s 65)),ia 67 0 66,il 68 67,iq 69 (.lenL (.s 68)),iq 70 (.bin .geq (.s 69) (.c (.int .i64 120)))])
 (.cond (.s 70)
 (.seq
 (.reg [ik 4 0,ik 5 20])
 .ret)
 .skip))
 (.seq
 (.drw [im 71 0,im 72 0,iq 73 (.nilck (.s 72)),ia 74 0 73,il 75 74,iq 76 (.loadn 4 (.s 6)),iq 77 (.bsl 4 1 [(.int .i64 0),(ofL []), .snil, .snil] [(0,4,(.s 76))]),iq 78 (.app 4 (.s 75) (.s 77)),iq 79 (.nilck (.s 71)),ia 80 0 79,iz (.store 1 (.s 80) (.s 78))] [])
 (.seq
 (.drw [im 81 0,iq 82 (.nilck (.s 81)),ia 83 1 82,il 84 83,iq 85 (.loadn 4 (.s 3)),iq 86 (.lenL (.s 84)),iq 87 (.bsl 4 1 [(.int .i64 0),(ofL []), .snil, .snil] [(0,4,(.c (.agg [(.int .i64 0),(ofL []), .snil, .snil])))]),iq 88 (.app 4 (.s 84) (.s 87)),iq 89 (.iaddrS 4 (.s 88) (.s 86)),iz (.store 4 (.s 89) (.s 85)),iq 90 (.nilck (.s 81)),ia 91 1 90,iz (.store 1 (.s 91) (.s 88))] [([89],[91]),([91],[89])])
 (.seq
 (.reg [im 92 0,iq 93 (.nilck (.s 92)),ia 94 0 93,il 95 94,iq 96 (.lenL (.s 95)),iq 97 (.bin .sub (.s 96) (.c (.int .i64 1))),im 4 97,ik 5 0])
 .ret))))))))}
theorem JpG :compFn Tryz.prog Tryz.f22 [[0,3,6],[0,3,6,7],[0,3,6,7],[0,3,6,7],[0,3,6,7,8],[0,3,6],[0,3,6,10],[0,3,6,10],[0,3,6,10],[0,3,6]]=some Kb:=by kernel_rfl
def Qi :Eva.Fn:={ntmps:=74,res:=[.s 4],body:=
 (.seq
 (.reg [iq 2 (.box (.s 0)),iq 3 (.box (.s 1)),iq 4 (.mv (.c (.bool false)))])
 (.seqj [2,3]
 (.seq
 (.reg [ia 7 0 2,il 8 7,ia 9 0 3,il 10 9,iq 11 (.eq (.one .i) true (.s 8) (.s 10)),im 12 11,ig 13 12 false (.faddr 1 (.s 2)),ig 14 12 false (.load1 (.s 13)),ig 15 12 false (.faddr 1 (.s 3)),ig 16 12 false (.load1 (.s 15)),ig 17 12 false (.eq (.one .s) true (.s 14) (.s 16)),iq 18 (.pick (.s 12) (.c (.bool true)) (.s 17)),im 19 18,ig 20 19 false (.faddr 2 (.s 2)),ig 21 19 false (.load1 (.s 20)),ig 22 19 false (.lenL (.s 21)),ig 23 19 false (.faddr 2 (.s 3)),ig 24 19 false (.load1 (.s 23)),ig 25 19 false (.lenL (.s 24)),ig 26 19 false (.eq (.one .i) true (.s 22) (.s 25)),iq 27 (.pick (.s 19) (.c (.bool true)) (.s 26)),im 28 27,ig 29 28 false (.faddr 3 (.s 2)),ig 30 28 false (.load1 (.s 29)),ig 31 28 false (.lenL (.s 30)),ig 32 28 false (.faddr 3 (.s 3)),ig 33 28 false (.load1 (.s 32)),ig 34 28 false (.lenL (.s 33)),ig 35 28 false (.eq (.one .i) true (.s 31) (.s 34)),iq 36 (.pick (.s 28) (.c (.bool true)) (.s 35))])
 (.cond (.s 36)
 (.seq
 (.reg [iq 4 (.mv (.c (.bool false)))])
 .ret)
 .skip))
 (.seqj [2,3]
 (.seq
 (.reg [ik 5 0])
 (.block 0
 (.loop [2,3,5]
 (.seqj [2,3,5]
 (.seq
 (.reg [im 37 5,ia 38 2 2,il 39 38,iq 40 (.lenL (.s 39)),iq 41 (.bin .lss (.s 37) (.s 40))])
 (.cond (.s 41)
 .skip
 (.exit 0)))
 (.seqj [2,3,5]
 (.block 1
 (.seq
 (.drw [ia 44 2 2,il 45 44,im 46 5,iq 47 (.iaddrS 1 (.s 45) (.s 46)),il 48 47,ia 49 2 3,il 50 49,im 51 5,iq 52 (.iaddrS 1 (.s 50) (.s 51)),il 53 52,iq 54 (.eq (.one .s) true (.s 48) (.s 53))] [])
 (.cond (.s 54)
 (.seq
 (.reg [iq 4 (.mv (.c (.bool false)))])
 .ret)
 .skip)))
 (.reg [im 42 5,iq 43 (.bin .add (.s 42) (.c (.int .i64 1))),im 5 43]))))))
 (.seqj []
 (.seq
 (.reg [ik 6 0])
 (.block 2
 (.loop [2,3,6]
 (.seqj [2,3,6]
 (.seq
 (.reg [im 55 6,ia 56 3 2,il 57 56,iq 58 (.lenL (.s 57)),iq 59 (.bin .lss (.s 55) (.s 58))])
 (.cond (.s 59)
 .skip
 (.exit 2)))
 (.seqj [2,3,6]
 (.block 3
 (.seq
 (.drw [ia 62 3 2,il 63 62,im 64 6,iq 65 (.iaddrS 4 (.s 63) (.s 64)),iq 66 (.loadn 4 (.s 65)),ia 67 3 3,il 68 67,im 69 6,iq 70 (.iaddrS 4 (.s 68) (.s 69)),iq 71 (.loadn 4 (.s 70)),⟨(some 72),(.call 54 [.s 66, .s 71]),none,(some [])⟩,iq 73 (.not (.s 72))] [])
 (.cond (.s 73)
 (.seq
 (.reg [iq 4 (.mv (.c (.bool false)))])
 .ret)
 .skip)))
 (.reg [im 60 6,iq 61 (.bin .add (.s 60) (.c (.int .i64 1))),im 6 61]))))))
 (.seq
 (.reg [iq 4 (.mv (.c (.bool true)))])
 .ret)))))}
theorem JpH :compFn Tryz.prog Tryz.f54 [[2,3],[2,3],[2,3,5],[2,3,5],[2,3,5],[],[2,3,6],[2,3,6],[2,3,6]]=some Qi:=by kernel_rfl
def Kl :Eva.Fn:={ntmps:=70,res:=[.s 2, .s 3, .s 4],body:=
 (.seq
 (.reg [iq 2 (.mv (.c .snil)),ik 3 0,ik 4 0])
 (.seq
 (.reg [im 11 0,iq 12 (.call 14 [.s 11]),im 10 12,ie 13 0 10,ie 14 1 10,im 5 13,im 6 14])
 (.seqj [0,5]
 (.seq
 (.reg [im 15 6,iq 16 (.eq (.one .i) true (.s 15) (.c (.int .i64 0)))])
 (.cond (.s 16)
 (.seq
 (.reg [im 17 6,iq 2 (.mv (.c .snil)),ik 3 0,im 4 17])
 .ret)
 .skip))
 (.seq
 (.reg [iq 18 (.build [.snil, .snil, .snil,(.int .i64 0)] []),iq 19 (.box (.s 18)),im 7 19])
 (.seqj [0,7]
 (.seq
 (.reg [ik 8 0])
 (.block 0
 (.loop [0,5,7,8]
 (.seqj [0,5,7,8]
 (.seq
 (.reg [im 20 8,im 21 5,iq 22 (.lenL (.s 21)),iq 23 (.bin .lss (.s 20) (.s 22))])
 (.cond (.s 23)
 .skip
 (.exit 0)))
 (.seqj [0,5,7,8]
 (.block 1
 (.seq
 (.reg [ik 9 0])
 (.seqj [0,5,7,8,9]
 (.seq
 (.reg [im 26 5,im 27 8,iq 28 (.iaddrS 3 (.s 26) (.s 27)),ia 29 0 28,il 30 29])
 (.cond (.s 30)
 (.reg [im 31 7,im 32 5,im 33 8,iq 34 (.iaddrS 3 (.s 32) (.s 33)),iq 35 (.loadn 3 (.s 34)),iq 36 (.call 15 [.s 31, .s 35]),im 9 36])
 (.reg [im 37 7,im 38 5,im 39 8,iq 40 (.iaddrS 3 (.s 38) (.s 39)),iq 41 (.loadn 3 (.s 40)),iq 42 (.call 16 [.s 37, .s 41]),im 9 42])))
 (.seq
 (.reg [im 43 9,iq 44 (.eq (.one .i) true (.s 43) (.c (.int .i64 0)))])
 (.cond (.s 44)
 (.seq
 (.drw [im 45 5,im 46 8,iq 47 (.iaddrS 3 (.s 45) (.s 46)),ia 48 2 47,il 49 48,im 50 9,iq 2 (.mv (.c .snil)),im 3 49,im 4 50] [])
 .ret)
 .skip)))))
 (.reg [im 24 8,iq 25 (.bin .add (.s 24) (.c (.int .i64 1))),im 8 25]))))))
 (.seqj [7]
 (.seq
 (.reg [im 51 7,iq 52 (.nilck (.s 51)),ia 53 0 52,il 54 53,iq 55 (.lenL (.s 54)),iq 56 (.bin .gtr (.s 55) (.c (.int .i64 0)))])
 (.cond (.s 56)
 (.seq
 (.reg [im 57 0,iq 58 (.lenS (.s 57)),iq 2 (.mv (.c .snil)),im 3 58,ik 4 12])
 .ret)
 .skip))
 (.seq
 (.drw [im 59 7,iq 60 (.nilck (.s 59)),ia 61 1 60,il 62 61,iq 63 (.build [(ofL []), .snil] [(1,1,(.s 62))]),iq 64 (.bsl 2 1 [(ofL []), .snil] [(0,2,(.s 63))]),im 65 7,iq 66 (.nilck (.s 65)),ia 67 2 66,il 68 67,iq 69 (.app 2 (.s 64) (.s 68)),im 2 69,ik 3 0,ik 4 0] [])
 .ret)))))))}
theorem Jsc :compFn Tryz.prog Tryz.f9 [[0,5],[0,7],[0,5,7,8],[0,5,7,8],[0,5,7,8],[0,5,7,8,9],[7]]=some Kl:=by kernel_rfl
def J8 :Eva.Fn:={ntmps:=82,res:=[.s 2, .s 3],body:=
 (.seq
 (.reg [iq 2 (.mv (.c .snil)),ik 3 0])
 (.seqj [0]
 (.seq
 (.reg [im 8 0,iq 9 (.lenS (.s 8)),iq 10 (.bin .gtr (.s 9) (.c (.int .i64 1500)))])
 (.cond (.s 10)
 (.seq
 (.reg [iq 2 (.mv (.c .snil)),ik 3 4])
 .ret)
 .skip))
 (.seq
 (.reg [iq 4 (.mv (.c .snil))])
 (.seq
 (.reg [ik 5 0,ik 6 0])
 (.seqj [0,4,6]
 (.block 0
 (.loop [0,4,5,6]
 (.seqj [0,4,5,6]
 (.seq
 (.reg [im 11 5,im 12 0,iq 13 (.lenS (.s 12)),iq 14 (.bin .lss (.s 11) (.s 13))])
 (.cond (.s 14)
 .skip
 (.exit 0)))
 (.block 1
 (.seqj [0,4,5,6]
 (.seq
 (.reg [im 15 5,iq 16 (.bin .add (.s 15) (.c (.int .i64 1))),im 17 0,iq 18 (.lenS (.s 17)),iq 19 (.bin .geq (.s 16) (.s 18)),im 20 19,ig 21 20 false (.mv (.s 0)),ig 22 20 false (.mv (.s 5)),ig 23 20 false (.idxS (.s 21) (.s 22)),ig 24 20 false (.eq (.one .i) true (.s 23) (.c (.int .u8 123))),iq 25 (.pick (.s 20) (.c (.bool true)) (.s 24)),im 26 25,ig 27 26 false (.mv (.s 0)),ig 28 26 false (.mv (.s 5)),ig 29 26 false (.bin .add (.s 28) (.c (.int .i64 1))),ig 30 26 false (.idxS (.s 27) (.s 29)),ig 31 26 false (.eq (.one .i) true (.s 30) (.c (.int .u8 123))),iq 32 (.pick (.s 26) (.c (.bool true)) (.s 31))])
 (.cond (.s 32)
 (.seq
 (.reg [im 33 5,iq 34 (.bin .add (.s 33) (.c (.int .i64 1))),im 5 34])
 (.exit 1))
 .skip))
 (.seqj [0,4,5]
 (.seq
 (.reg [im 35 5,im 36 6,iq 37 (.bin .gtr (.s 35) (.s 36))])
 (.cond (.s 37)
 (.reg [im 38 4,im 39 0,im 40 6,im 41 5,iq 42 (.cutS (.s 39) (some (.s 40)) (some (.s 41))),im 43 6,iq 44 (.build [(.bool false),(ofL []),(.int .i64 0)] [(1,1,(.s 42)),(2,1,(.s 43))]),iq 45 (.bsl 3 1 [(.bool false),(ofL []),(.int .i64 0)] [(0,3,(.s 44))]),iq 46 (.app 3 (.s 38) (.s 45)),im 4 46])
 .skip))
 (.seq
 (.reg [im 47 0,im 48 5,iq 49 (.bin .add (.s 48) (.c (.int .i64 2))),iq 50 (.call 23 [.s 47, .s 49]),im 7 50])
 (.seqj [0,4,5,7]
 (.seq
 (.reg [im 51 7,iq 52 (.bin .lss (.s 51) (.c (.int .i64 0)))])
 (.cond (.s 52)
 (.seq
 (.reg [iq 2 (.mv (.c .snil)),ik 3 11])
 .ret)
 .skip))
 (.seq
 (.reg [im 53 4,im 54 0,im 55 5,iq 56 (.bin .add (.s 55) (.c (.int .i64 2))),im 57 7,iq 58 (.cutS (.s 54) (some (.s 56)) (some (.s 57))),im 59 5,iq 60 (.build [(.bool false),(ofL []),(.int .i64 0)] [(0,1,(.c (.bool true))),(1,1,(.s 58)),(2,1,(.s 59))]),iq 61 (.bsl 3 1 [(.bool false),(ofL []),(.int .i64 0)] [(0,3,(.s 60))]),iq 62 (.app 3 (.s 53) (.s 61)),im 4 62])
 (.seq
 (.reg [im 63 7,iq 64 (.bin .add (.s 63) (.c (.int .i64 2))),im 5 64])
 (.reg [im 65 5,im 6 65])))))))))))
 (.seqj [4]
 (.seq
 (.reg [im 66 0,iq 67 (.lenS (.s 66)),im 68 6,iq 69 (.bin .gtr (.s 67) (.s 68))])
 (.cond (.s 69)
 (.reg [im 70 4,im 71 0,im 72 6,iq 73 (.cutS (.s 71) (some (.s 72)) none),im 74 6,iq 75 (.build [(.bool false),(ofL []),(.int .i64 0)] [(1,1,(.s 73)),(2,1,(.s 74))]),iq 76 (.bsl 3 1 [(.bool false),(ofL []),(.int .i64 0)] [(0,3,(.s 75))]),iq 77 (.app 3 (.s 70) (.s 76)),im 4 77])
 .skip))
 (.seqj [4]
 (.seq
 (.reg [im 78 4,iq 79 (.lenL (.s 78)),iq 80 (.bin .gtr (.s 79) (.c (.int .i64 200)))])
 (.cond (.s 80)
 (.seq
 (.reg [iq 2 (.mv (.c .snil)),ik 3 3])
 .ret)
 .skip))
 (.seq
 (.reg [im 81 4,im 2 81,ik 3 0])
 .ret))))))))}
theorem JpI :compFn Tryz.prog Tryz.f14 [[0],[0,4,6],[0,4,5,6],[0,4,5,6],[0,4,5,6],[0,4,5],[0,4,5,7],[4],[4]]=some J8:=by kernel_rfl
def KZ :Eva.Fn:={ntmps:=56,res:=[.s 4],body:=
 (.seq
 (.reg [ik 4 0])
 (.seq
 (.reg [iq 5 (.mv (.c (.bool false))),ik 6 0])
 (.seqj []
 (.block 0
 (.loop [0,1,5,6]
 (.seqj [0,1,5,6]
 (.seq
 (.reg [im 8 1,im 9 0,iq 10 (.lenS (.s 9)),iq 11 (.bin .lss (.s 8) (.s 10))])
 (.cond (.s 11)
 .skip
 (.exit 0)))
 (.block 1
 (.seq
 (.reg [im 12 0,im 13 1,iq 14 (.idxS (.s 12) (.s 13)),im 7 14])
 (.seqj [0,1,5,6]
 (.block 2
 (.seq
 (.reg [im 23 5,iq 24 (.not (.s 23)),im 25 24,ig 26 25 true (.mv (.s 7)),ig 27 25 true (.eq (.one .i) false (.s 26) (.c (.int .u8 125))),iq 28 (.pick (.s 25) (.s 27) (.c (.bool false))),im 29 28,ig 30 29 true (.mv (.s 1)),ig 31 29 true (.bin .add (.s 30) (.c (.int .i64 1))),ig 32 29 true (.mv (.s 0)),ig 33 29 true (.lenS (.s 32)),ig 34 29 true (.bin .lss (.s 31) (.s 33)),iq 35 (.pick (.s 29) (.s 34) (.c (.bool false))),im 36 35,ig 37 36 true (.mv (.s 0)),ig 38 36 true (.mv (.s 1)),ig 39 36 true (.bin .add (.s 38) (.c (.int .i64 1))),ig 40 36 true (.idxS (.s 37) (.s 39)),ig 41 36 true (.eq (.one .i) false (.s 40) (.c (.int .u8 125))),iq 42 (.pick (.s 36) (.s 41) (.c (.bool false))),im 22 42])
 (.cond (.s 22)
 (.seq
 (.reg [im 43 1,im 4 43])
 .ret)
 (.seq
 (.reg [im 45 5,iq 46 (.not (.s 45)),im 44 46])
 (.cond (.s 44)
 (.seq
 (.reg [im 47 7,iq 48 (.eq (.one .i) false (.s 47) (.c (.int .u8 34))),im 5 48])
 (.reg [ik 6 0]))
 (.seq
 (.reg [im 50 7,iq 51 (.eq (.one .i) false (.s 50) (.c (.int .u8 92))),im 49 51])
 (.cond (.s 49)
 (.reg [im 52 6,iq 53 (.bin .add (.s 52) (.c (.int .i64 1))),im 6 53])
 (.seq
 (.reg [im 15 7,iq 16 (.eq (.one .i) true (.s 15) (.c (.int .u8 34))),im 17 16,ig 18 17 false (.mv (.s 6)),ig 19 17 false (.bin .rem (.s 18) (.c (.int .i64 2))),ig 20 17 false (.eq (.one .i) false (.s 19) (.c (.int .i64 1))),iq 21 (.pick (.s 17) (.c (.bool true)) (.s 20)),im 5 21])
 (.reg [ik 6 0])))))))))
 (.reg [im 54 1,iq 55 (.bin .add (.s 54) (.c (.int .i64 1))),im 1 55])))))))
 (.seq
 (.reg [iq 4 (.mv (.c (.int .i64 (-1))))])
 .ret))))}
theorem JpJ :compFn Tryz.prog Tryz.f23 [[],[0,1,5,6],[0,1,5,6],[0,1,5,6]]=some KZ:=by kernel_rfl
def Jt :Eva.Fn:={ntmps:=166,res:=[.s 4],body:=
 (.seq
 (.reg [iq 3 (.box (.s 1)),ik 4 0])
 (.seq
 (.reg [ia 11 1 3,il 12 11,iq 13 (.call 24 [.s 12]),im 10 13,ie 14 0 10,ie 15 1 10,im 5 14,im 6 15])
 (.seqj [0,3,5]
 (.seq
 (.reg [im 16 6,iq 17 (.eq (.one .i) true (.s 16) (.c (.int .i64 0)))])
 (.cond (.s 17)
 (.seq
 (.reg [im 18 6,im 4 18])
 .ret)
 .skip))
 (.seq
 (.reg [im 19 5,iq 20 (.build [.snil,(.int .i64 0),(.int .i64 0)] [(0,1,(.s 19))]),iq 21 (.box (.s 20)),im 7 21])
 (.seq
 (.reg [ia 22 2 3,il 23 22,iq 24 (.build [(.int .i64 0),(.int .i64 0),(ofL []),(ofL []), .snil, .snil, .snil,(.bool false), .snil] [(0,1,(.c (.int .i64 2))),(1,1,(.s 23))]),iq 8 (.alloc [(.int .i64 0),(.int .i64 0),(ofL []),(ofL []), .snil, .snil, .snil,(.bool false), .snil]),iz (.store 9 (.s 8) (.s 24))])
 (.seq
 (.reg [iq 9 (.mv (.c (ofL [])))])
 (.seqj [0,5,7,8,9]
 (.seq
 (.reg [im 25 7,iq 26 (.call 25 [.s 25,(.c (.int .i64 1))]),im 27 26,ig 28 27 true (.mv (.s 5)),ig 29 27 true (.iaddrS 4 (.s 28) (.c (.int .i64 0))),ig 30 27 true (.faddr 1 (.s 29)),ig 31 27 true (.load1 (.s 30)),ig 32 27 true (.call 26 [.s 31]),iq 33 (.pick (.s 27) (.s 32) (.c (.bool false))),im 34 33,ig 35 34 true (.mv (.s 5)),ig 36 34 true (.iaddrS 4 (.s 35) (.c (.int .i64 0))),ig 37 34 true (.faddr 1 (.s 36)),ig 38 34 true (.load1 (.s 37)),ig 39 34 true (.eq (.one .s) true (.s 38) (.c (ofL [116,114,117,101]))),iq 40 (.pick (.s 34) (.s 39) (.c (.bool false))),im 41 40,ig 42 41 true (.mv (.s 5)),ig 43 41 true (.iaddrS 4 (.s 42) (.c (.int .i64 0))),ig 44 41 true (.faddr 1 (.s 43)),ig 45 41 true (.load1 (.s 44)),ig 46 41 true (.eq (.one .s) true (.s 45) (.c (ofL [102,97,108,115,101]))),iq 47 (.pick (.s 41) (.s 46) (.c (.bool false)))])
 (.cond (.s 47)
 (.seq
 (.reg [im 48 5,iq 49 (.iaddrS 4 (.s 48) (.c (.int .i64 0))),ia 50 1 49,il 51 50,im 9 51])
 (.reg [im 52 7,iq 53 (.nilck (.s 52)),ia 54 1 53,il 55 54,iq 56 (.bin .add (.s 55) (.c (.int .i64 1))),iq 57 (.nilck (.s 52)),ia 58 1 57,iz (.store 1 (.s 58) (.s 56))]))
 .skip))
 (.seqj [0,7,8,9]
 (.seq
 (.reg [im 59 9])
 (.block 0
 (.seqj [0,5,7,8,9,59,113]
 (.seq
 (.reg [iq 114 (.eq (.one .s) false (.s 59) (.c (ofL [105,102]))),im 113 114])
 (.cond (.s 113)
 .skip
 (.seq
 (.reg [iq 115 (.eq (.one .s) false (.s 59) (.c (ofL [119,105,116,104]))),im 113 115])
 (.cond (.s 113)
 .skip
 (.seq
 (.reg [iq 116 (.eq (.one .s) false (.s 59) (.c (ofL [114,97,110,103,101]))),im 113 116])
 (.cond (.s 113)
 .skip
 (.reg [iq 117 (.eq (.one .s) false (.s 59) (.c (ofL [109,97,116,99,104]))),im 113 117])))))))
 (.cond (.s 113)
 (.reg [im 118 9,iq 119 (.call 27 [.s 118]),im 120 7,iq 121 (.call 28 [.s 120,(.c (.int .i64 0))]),ia 122 0 8,iz (.store 1 (.s 122) (.s 119)),ia 123 4 8,iz (.store 1 (.s 123) (.s 121))])
 (.seqj [0,5,7,8,9,59,124]
 (.seq
 (.reg [iq 125 (.eq (.one .s) false (.s 59) (.c (ofL [101,108,115,101]))),im 124 125])
 (.cond (.s 124)
 .skip
 (.reg [iq 126 (.eq (.one .s) false (.s 59) (.c (ofL [101,110,100]))),im 124 126])))
 (.cond (.s 124)
 .skip
 (.seq
 (.reg [iq 128 (.eq (.one .s) false (.s 59) (.c (ofL [99,97,115,101]))),im 127 128])
 (.cond (.s 127)
 (.reg [im 129 7,iq 130 (.call 29 [.s 129,(.c (.int .i64 1))]),iq 131 (.fld 1 none (.s 130)),ia 132 3 8,iz (.store 1 (.s 132) (.s 131))])
 (.seqj [0,5,7,8,9,133]
 (.seq
 (.reg [iq 134 (.eq (.one .s) false (.s 59) (.c (ofL [100,101,102,105,110,101]))),im 133 134])
 (.cond (.s 133)
 .skip
 (.reg [iq 135 (.eq (.one .s) false (.s 59) (.c (ofL [116,101,109,112,108,97,116,101]))),im 133 135])))
 (.cond (.s 133)
 (.seq
 (.reg [im 136 7,iq 137 (.call 29 [.s 136,(.c (.int .i64 2))]),iq 138 (.fld 1 none (.s 137)),ia 139 0 8,iz (.store 1 (.s 139) (.c (.int .i64 9))),ia 140 3 8,iz (.store 1 (.s 140) (.s 138))])
 (.seq
 (.reg [im 141 9,iq 142 (.eq (.one .s) false (.s 141) (.c (ofL [116,101,109,112,108,97,116,101]))),im 143 142,ig 144 143 true (.mv (.s 7)),ig 145 143 true (.nilck (.s 144)),ig 146 143 true (.faddr 1 (.s 145)),ig 147 143 true (.load1 (.s 146)),ig 148 143 true (.mv (.s 5)),ig 149 143 true (.lenL (.s 148)),ig 150 143 true (.bin .lss (.s 147) (.s 149)),iq 151 (.pick (.s 143) (.s 150) (.c (.bool false)))])
 (.cond (.s 151)
 (.reg [im 152 7,iq 153 (.call 28 [.s 152,(.c (.int .i64 0))]),ia 154 4 8,iz (.store 1 (.s 154) (.s 153))])
 .skip)))
 (.seqj [0,7,8,9]
 (.seq
 (.reg [im 60 5,iq 61 (.lenL (.s 60)),iq 62 (.bin .gtr (.s 61) (.c (.int .i64 2))),im 63 62,ig 64 63 true (.mv (.s 7)),ig 65 63 true (.call 30 [.s 64,(.c (ofL [36]))]),iq 66 (.pick (.s 63) (.s 65) (.c (.bool false))),im 67 66,ig 68 67 true (.mv (.s 5)),ig 69 67 true (.iaddrS 4 (.s 68) (.c (.int .i64 1))),ig 70 67 true (.faddr 0 (.s 69)),ig 71 67 true (.load1 (.s 70)),ig 72 67 true (.eq (.one .i) false (.s 71) (.c (.int .i64 1))),iq 73 (.pick (.s 67) (.s 72) (.c (.bool false))),im 74 73,ig 75 74 true (.mv (.s 5)),ig 76 74 true (.iaddrS 4 (.s 75) (.c (.int .i64 2))),ig 77 74 true (.faddr 0 (.s 76)),ig 78 74 true (.load1 (.s 77)),ig 79 74 true (.eq (.one .i) false (.s 78) (.c (.int .i64 4))),iq 80 (.pick (.s 74) (.s 79) (.c (.bool false))),im 81 80,ig 82 81 true (.mv (.s 5)),ig 83 81 true (.iaddrS 4 (.s 82) (.c (.int .i64 2))),ig 84 81 true (.faddr 1 (.s 83)),ig 85 81 true (.load1 (.s 84)),ig 86 81 true (.eq (.one .s) false (.s 85) (.c (ofL [58,61]))),ig 87 81 true (.mv (.s 86)),ig 88 87 false (.mv (.s 5)),ig 89 87 false (.iaddrS 4 (.s 88) (.c (.int .i64 2))),ig 90 87 false (.faddr 1 (.s 89)),ig 91 87 false (.load1 (.s 90)),ig 92 87 false (.eq (.one .s) false (.s 91) (.c (ofL [61]))),ig 93 81 true (.pick (.s 87) (.c (.bool true)) (.s 92)),iq 94 (.pick (.s 81) (.s 93) (.c (.bool false)))])
 (.cond (.s 94)
 (.seq
 (.drw [im 95 5,iq 96 (.iaddrS 4 (.s 95) (.c (.int .i64 1))),ia 97 1 96,il 98 97,ia 99 0 8,iz (.store 1 (.s 99) (.c (.int .i64 3))),ia 100 3 8,iz (.store 1 (.s 100) (.s 98))] [([99],[97])])
 (.seqj [0,7,8,9]
 (.seq
 (.reg [im 101 5,iq 102 (.iaddrS 4 (.s 101) (.c (.int .i64 2))),ia 103 1 102,il 104 103,iq 105 (.eq (.one .s) false (.s 104) (.c (ofL [61])))])
 (.cond (.s 105)
 (.reg [ia 106 0 8,iz (.store 1 (.s 106) (.c (.int .i64 4)))])
 .skip))
 (.reg [im 107 7,iq 108 (.nilck (.s 107)),ia 109 1 108,iz (.store 1 (.s 109) (.c (.int .i64 3)))])))
 .skip))
 (.reg [im 110 7,iq 111 (.call 28 [.s 110,(.c (.int .i64 0))]),ia 112 4 8,iz (.store 1 (.s 112) (.s 111))]))))))))))))
 (.seqj [0,8,9]
 (.seq
 (.reg [im 155 7,iq 156 (.call 31 [.s 155]),iq 157 (.eq (.one .i) true (.s 156) (.c (.int .i64 0)))])
 (.cond (.s 157)
 (.seq
 (.reg [im 158 7,iq 159 (.nilck (.s 158)),ia 160 2 159,il 161 160,im 4 161])
 .ret)
 .skip))
 (.seq
 (.reg [im 162 0,im 163 9,iq 164 (.loadn 9 (.s 8)),iq 165 (.call 32 [.s 162, .s 163, .s 164]),im 4 165])
 .ret))))))))))}
theorem JpK :compFn Tryz.prog Tryz.f15 [[0,3,5],[0,5,7,8,9],[0,7,8,9],[0,5,7,8,9,59,113],[0,5,7,8,9,59,124],[0,5,7,8,9,133],[0,7,8,9],[0,7,8,9],[0,8,9]]=some Jt:=by kernel_rfl
def KK :Eva.Fn:={ntmps:=41,res:=[.s 2, .s 3],body:=
 (.seq
 (.reg [iq 2 (.mv (.c .snil)),ik 3 0])
 (.seqj [0]
 (.seq
 (.reg [im 9 0,iq 10 (.lenS (.s 9)),iq 11 (.bin .gtr (.s 10) (.c (.int .i64 1500)))])
 (.cond (.s 11)
 (.seq
 (.reg [iq 2 (.mv (.c .snil)),ik 3 4])
 .ret)
 .skip))
 (.seq
 (.reg [iq 4 (.mv (.c .snil))])
 (.seq
 (.reg [ik 5 0])
 (.seqj [4]
 (.block 0
 (.loop [0,4,5]
 (.seqj [0,4,5]
 (.seq
 (.reg [im 12 5,im 13 0,iq 14 (.lenS (.s 13)),iq 15 (.bin .lss (.s 12) (.s 14))])
 (.cond (.s 15)
 .skip
 (.exit 0)))
 (.block 1
 (.seqj [0,4,5]
 (.seq
 (.reg [im 16 0,im 17 5,iq 18 (.idxS (.s 16) (.s 17)),iq 19 (.call 55 [.s 18])])
 (.cond (.s 19)
 (.seq
 (.reg [im 20 5,iq 21 (.bin .add (.s 20) (.c (.int .i64 1))),im 5 21])
 (.exit 1))
 .skip))
 (.seq
 (.reg [im 23 0,im 24 5,iq 25 (.call 56 [.s 23, .s 24]),im 22 25,ie 26 0 22,ie 27 1 22,ie 28 2 22,iq 6 (.alloc [(.int .i64 0),(ofL []),(.int .i64 0),(.int .i64 0)]),iz (.store 4 (.s 6) (.s 26)),im 7 27,im 8 28])
 (.seqj [0,4,6,7]
 (.seq
 (.reg [im 29 8,iq 30 (.eq (.one .i) true (.s 29) (.c (.int .i64 0)))])
 (.cond (.s 30)
 (.seq
 (.reg [im 31 8,iq 2 (.mv (.c .snil)),im 3 31])
 .ret)
 .skip))
 (.seq
 (.reg [im 32 4,iq 33 (.loadn 4 (.s 6)),iq 34 (.bsl 4 1 [(.int .i64 0),(ofL []),(.int .i64 0),(.int .i64 0)] [(0,4,(.s 33))]),iq 35 (.app 4 (.s 32) (.s 34)),im 4 35])
 (.reg [im 36 7,im 5 36])))))))))
 (.seqj [4]
 (.seq
 (.reg [im 37 4,iq 38 (.lenL (.s 37)),iq 39 (.bin .gtr (.s 38) (.c (.int .i64 400)))])
 (.cond (.s 39)
 (.seq
 (.reg [iq 2 (.mv (.c .snil)),ik 3 3])
 .ret)
 .skip))
 (.seq
 (.reg [im 40 4,im 2 40,ik 3 0])
 .ret)))))))}
theorem JpL :compFn Tryz.prog Tryz.f24 [[0],[4],[0,4,5],[0,4,5],[0,4,5],[0,4,6,7],[4]]=some KK:=by kernel_rfl
def K0 :Eva.Fn:={ntmps:=17,res:=[.s 2],body:=
 (.seq
 (.reg [iq 2 (.mv (.c (.bool false)))])
 (.seq
 (.reg [im 3 0,iq 4 (.eq (.one .i) false (.s 3) (.c (.int .u8 32))),im 5 4,ig 6 5 false (.mv (.s 0)),ig 7 5 false (.eq (.one .i) false (.s 6) (.c (.int .u8 9))),iq 8 (.pick (.s 5) (.c (.bool true)) (.s 7)),im 9 8,ig 10 9 false (.mv (.s 0)),ig 11 9 false (.eq (.one .i) false (.s 10) (.c (.int .u8 10))),iq 12 (.pick (.s 9) (.c (.bool true)) (.s 11)),im 13 12,ig 14 13 false (.mv (.s 0)),ig 15 13 false (.eq (.one .i) false (.s 14) (.c (.int .u8 13))),iq 16 (.pick (.s 13) (.c (.bool true)) (.s 15)),im 2 16])
 .ret))}
theorem JpM :compFn Tryz.prog Tryz.f55 []=some K0:=by kernel_rfl
def Qj :Eva.Fn:={ntmps:=177,res:=[(.cn 4 4), .s 5, .s 6],body:=
 (.seq
 (.reg [iq 4 (.alloc [(.int .i64 0),(ofL []),(.int .i64 0),(.int .i64 0)]),ik 5 0,ik 6 0])
 (.seq
 (.reg [im 14 1,im 7 14])
 (.seqj [0,1,4]
 (.block 0
 (.seq
 (.reg [im 16 0,im 17 1,iq 18 (.idxS (.s 16) (.s 17)),iq 19 (.call 81 [.s 18]),im 15 19])
 (.cond (.s 15)
 (.seqj [0,1,4,7]
 (.block 1
 (.loop [0,1,4,7]
 (.seqj [0,1,4,7]
 (.seq
 (.reg [im 20 7,im 21 0,iq 22 (.lenS (.s 21)),iq 23 (.bin .lss (.s 20) (.s 22)),im 24 23,ig 25 24 true (.mv (.s 0)),ig 26 24 true (.mv (.s 7)),ig 27 24 true (.idxS (.s 25) (.s 26)),ig 28 24 true (.call 81 [.s 27]),ig 29 24 true (.mv (.s 28)),ig 30 29 false (.mv (.s 0)),ig 31 29 false (.mv (.s 7)),ig 32 29 false (.idxS (.s 30) (.s 31)),ig 33 29 false (.call 82 [.s 32]),ig 34 24 true (.pick (.s 29) (.c (.bool true)) (.s 33)),iq 35 (.pick (.s 24) (.s 34) (.c (.bool false)))])
 (.cond (.s 35)
 .skip
 (.exit 1)))
 (.block 2
 (.reg [im 36 7,iq 37 (.bin .add (.s 36) (.c (.int .i64 1))),im 7 37])))))
 (.seqj [0,1,4,7]
 (.seq
 (.reg [im 38 7,im 39 1,iq 40 (.bin .sub (.s 38) (.s 39)),iq 41 (.bin .gtr (.s 40) (.c (.int .i64 16)))])
 (.cond (.s 41)
 (.seq
 (.reg [iq 42 (.build [(.int .i64 0),(ofL []),(.int .i64 0),(.int .i64 0)] []),iz (.store 4 (.s 4) (.s 42)),ik 5 0,ik 6 4])
 .ret)
 .skip))
 (.seq
 (.reg [im 43 0,im 44 1,im 45 7,iq 46 (.cutS (.s 43) (some (.s 44)) (some (.s 45))),im 47 1,iq 48 (.build [(.int .i64 0),(ofL []),(.int .i64 0),(.int .i64 0)] [(0,1,(.c (.int .i64 1))),(1,1,(.s 46)),(3,1,(.s 47))]),im 49 7,iz (.store 4 (.s 4) (.s 48)),im 5 49,ik 6 0])
 .ret)))
 (.seq
 (.reg [im 51 0,im 52 1,iq 53 (.idxS (.s 51) (.s 52)),iq 54 (.call 82 [.s 53]),im 55 54,ig 56 55 false (.mv (.s 0)),ig 57 55 false (.mv (.s 1)),ig 58 55 false (.idxS (.s 56) (.s 57)),ig 59 55 false (.eq (.one .i) false (.s 58) (.c (.int .u8 45))),ig 60 55 false (.mv (.s 59)),ig 61 60 true (.mv (.s 1)),ig 62 60 true (.bin .add (.s 61) (.c (.int .i64 1))),ig 63 60 true (.mv (.s 0)),ig 64 60 true (.lenS (.s 63)),ig 65 60 true (.bin .lss (.s 62) (.s 64)),ig 66 55 false (.pick (.s 60) (.s 65) (.c (.bool false))),ig 67 55 false (.mv (.s 66)),ig 68 67 true (.mv (.s 0)),ig 69 67 true (.mv (.s 1)),ig 70 67 true (.bin .add (.s 69) (.c (.int .i64 1))),ig 71 67 true (.idxS (.s 68) (.s 70)),ig 72 67 true (.call 82 [.s 71]),ig 73 55 false (.pick (.s 67) (.s 72) (.c (.bool false))),iq 74 (.pick (.s 55) (.c (.bool true)) (.s 73)),im 50 74])
 (.cond (.s 50)
 (.seq
 (.reg [im 75 7,iq 76 (.bin .add (.s 75) (.c (.int .i64 1))),im 7 76])
 (.seqj [0,1,4,7]
 (.block 3
 (.loop [0,1,4,7]
 (.seqj [0,1,4,7]
 (.seq
 (.reg [im 77 7,im 78 0,iq 79 (.lenS (.s 78)),iq 80 (.bin .lss (.s 77) (.s 79)),im 81 80,ig 82 81 true (.mv (.s 0)),ig 83 81 true (.mv (.s 7)),ig 84 81 true (.idxS (.s 82) (.s 83)),ig 85 81 true (.call 82 [.s 84]),iq 86 (.pick (.s 81) (.s 85) (.c (.bool false)))])
 (.cond (.s 86)
 .skip
 (.exit 3)))
 (.block 4
 (.reg [im 87 7,iq 88 (.bin .add (.s 87) (.c (.int .i64 1))),im 7 88])))))
 (.seq
 (.reg [im 90 0,im 91 1,im 92 7,iq 93 (.cutS (.s 90) (some (.s 91)) (some (.s 92))),iq 94 (.call 86 [.s 93]),im 89 94,ie 95 0 89,ie 96 1 89,im 8 95,im 9 96])
 (.seq
 (.reg [im 97 8,im 98 1,iq 99 (.build [(.int .i64 0),(ofL []),(.int .i64 0),(.int .i64 0)] [(0,1,(.c (.int .i64 3))),(2,1,(.s 97)),(3,1,(.s 98))]),im 100 7,im 101 9,iz (.store 4 (.s 4) (.s 99)),im 5 100,im 6 101])
 .ret))))
 (.seq
 (.reg [im 103 0,im 104 1,iq 105 (.idxS (.s 103) (.s 104)),iq 106 (.eq (.one .i) false (.s 105) (.c (.int .u8 34))),im 102 106])
 (.cond (.s 102)
 (.seq
 (.reg [im 108 0,im 109 1,iq 110 (.call 87 [.s 108, .s 109]),im 107 110,ie 111 0 107,ie 112 1 107,im 10 111,im 11 112])
 (.seqj [1,4,10,11]
 (.seq
 (.reg [im 113 11,iq 114 (.bin .lss (.s 113) (.c (.int .i64 0)))])
 (.cond (.s 114)
 (.seq
 (.reg [iq 115 (.build [(.int .i64 0),(ofL []),(.int .i64 0),(.int .i64 0)] []),iz (.store 4 (.s 4) (.s 115)),ik 5 0,ik 6 11])
 .ret)
 .skip))
 (.seqj [1,4,10,11]
 (.seq
 (.reg [im 116 10,iq 117 (.lenS (.s 116)),iq 118 (.bin .gtr (.s 117) (.c (.int .i64 200)))])
 (.cond (.s 118)
 (.seq
 (.reg [iq 119 (.build [(.int .i64 0),(ofL []),(.int .i64 0),(.int .i64 0)] []),iz (.store 4 (.s 4) (.s 119)),ik 5 0,ik 6 4])
 .ret)
 .skip))
 (.seq
 (.reg [im 120 10,im 121 1,iq 122 (.build [(.int .i64 0),(ofL []),(.int .i64 0),(.int .i64 0)] [(0,1,(.c (.int .i64 2))),(1,1,(.s 120)),(3,1,(.s 121))]),im 123 11,iz (.store 4 (.s 4) (.s 122)),im 5 123,ik 6 0])
 .ret))))
 .skip)))))))
 (.seqj [0,1,4]
 (.seq
 (.reg [im 124 1,iq 125 (.bin .add (.s 124) (.c (.int .i64 2))),im 126 0,iq 127 (.lenS (.s 126)),iq 128 (.bin .leq (.s 125) (.s 127)),im 129 128,ig 130 129 true (.mv (.s 0)),ig 131 129 true (.mv (.s 1)),ig 132 129 true (.mv (.s 1)),ig 133 129 true (.bin .add (.s 132) (.c (.int .i64 2))),ig 134 129 true (.cutS (.s 130) (some (.s 131)) (some (.s 133))),ig 135 129 true (.eq (.one .s) false (.s 134) (.c (ofL [45,62]))),ig 136 129 true (.mv (.s 135)),ig 137 136 false (.mv (.s 0)),ig 138 136 false (.mv (.s 1)),ig 139 136 false (.mv (.s 1)),ig 140 136 false (.bin .add (.s 139) (.c (.int .i64 2))),ig 141 136 false (.cutS (.s 137) (some (.s 138)) (some (.s 140))),ig 142 136 false (.eq (.one .s) false (.s 141) (.c (ofL [58,61]))),ig 143 129 true (.pick (.s 136) (.c (.bool true)) (.s 142)),iq 144 (.pick (.s 129) (.s 143) (.c (.bool false)))])
 (.cond (.s 144)
 (.seq
 (.reg [im 145 0,im 146 1,im 147 1,iq 148 (.bin .add (.s 147) (.c (.int .i64 2))),iq 149 (.cutS (.s 145) (some (.s 146)) (some (.s 148))),im 150 1,iq 151 (.build [(.int .i64 0),(ofL []),(.int .i64 0),(.int .i64 0)] [(0,1,(.c (.int .i64 4))),(1,1,(.s 149)),(3,1,(.s 150))]),im 152 1,iq 153 (.bin .add (.s 152) (.c (.int .i64 2))),iz (.store 4 (.s 4) (.s 151)),im 5 153,ik 6 0])
 .ret)
 .skip))
 (.seq
 (.reg [iq 12 (.mv (.c (ofL [123,125,60,62,44,58,40,41,46,36,124,61,59])))])
 (.seqj [4]
 (.seq
 (.reg [ik 13 0])
 (.block 5
 (.loop [0,1,4,12,13]
 (.seqj [0,1,4,12,13]
 (.seq
 (.reg [im 154 13,im 155 12,iq 156 (.lenS (.s 155)),iq 157 (.bin .lss (.s 154) (.s 156))])
 (.cond (.s 157)
 .skip
 (.exit 5)))
 (.seqj [0,1,4,12,13]
 (.block 6
 (.seq
 (.drw [im 160 12,im 161 13,iq 162 (.idxS (.s 160) (.s 161)),im 163 0,im 164 1,iq 165 (.idxS (.s 163) (.s 164)),iq 166 (.eq (.one .i) false (.s 162) (.s 165))] [])
 (.cond (.s 166)
 (.seq
 (.reg [im 167 0,im 168 1,im 169 1,iq 170 (.bin .add (.s 169) (.c (.int .i64 1))),iq 171 (.cutS (.s 167) (some (.s 168)) (some (.s 170))),im 172 1,iq 173 (.build [(.int .i64 0),(ofL []),(.int .i64 0),(.int .i64 0)] [(0,1,(.c (.int .i64 4))),(1,1,(.s 171)),(3,1,(.s 172))]),im 174 1,iq 175 (.bin .add (.s 174) (.c (.int .i64 1))),iz (.store 4 (.s 4) (.s 173)),im 5 175,ik 6 0])
 .ret)
 .skip)))
 (.reg [im 158 13,iq 159 (.bin .add (.s 158) (.c (.int .i64 1))),im 13 159]))))))
 (.seq
 (.reg [iq 176 (.build [(.int .i64 0),(ofL []),(.int .i64 0),(.int .i64 0)] []),iz (.store 4 (.s 4) (.s 176)),ik 5 0,ik 6 11])
 .ret)))))))}
theorem JpN :compFn Tryz.prog Tryz.f56 [[0,1,4],[0,1,4,7],[0,1,4,7],[0,1,4,7],[0,1,4,7],[0,1,4,7],[0,1,4,7],[0,1,4,7],[1,4,10,11],[1,4,10,11],[0,1,4],[4],[0,1,4,12,13],[0,1,4,12,13],[0,1,4,12,13]]=some Qj:=by kernel_rfl
def KL :Eva.Fn:={ntmps:=42,res:=[.s 2, .s 3],body:=
 (.seq
 (.reg [ik 2 0,ik 3 0])
 (.seq
 (.reg [im 7 0,im 4 7])
 (.seqj [0,4]
 (.seq
 (.reg [im 8 0,iq 9 (.idxS (.s 8) (.c (.int .i64 0))),iq 10 (.eq (.one .i) false (.s 9) (.c (.int .u8 45)))])
 (.cond (.s 10)
 (.reg [im 11 0,iq 12 (.cutS (.s 11) (some (.c (.int .i64 1))) none),im 4 12])
 .skip))
 (.seqj [0,4]
 (.seq
 (.reg [im 13 4,iq 14 (.lenS (.s 13)),iq 15 (.bin .gtr (.s 14) (.c (.int .i64 19)))])
 (.cond (.s 15)
 (.seq
 (.reg [ik 2 0,ik 3 4])
 .ret)
 .skip))
 (.seq
 (.reg [iq 5 (.mv (.c (.int .u64 0)))])
 (.seqj [0,5]
 (.seq
 (.reg [ik 6 0])
 (.block 0
 (.loop [0,4,5,6]
 (.seqj [0,4,5,6]
 (.seq
 (.reg [im 16 6,im 17 4,iq 18 (.lenS (.s 17)),iq 19 (.bin .lss (.s 16) (.s 18))])
 (.cond (.s 19)
 .skip
 (.exit 0)))
 (.seqj [0,4,5,6]
 (.block 1
 (.reg [im 22 5,iq 23 (.bin .mul (.s 22) (.c (.int .u64 10))),im 24 4,im 25 6,iq 26 (.idxS (.s 24) (.s 25)),iq 27 (.bin .sub (.s 26) (.c (.int .u8 48))),iq 28 (.toint .u64 (.s 27)),iq 29 (.bin .add (.s 23) (.s 28)),im 5 29]))
 (.reg [im 20 6,iq 21 (.bin .add (.s 20) (.c (.int .i64 1))),im 6 21]))))))
 (.seqj [5]
 (.seq
 (.reg [im 30 0,iq 31 (.idxS (.s 30) (.c (.int .i64 0))),iq 32 (.eq (.one .i) false (.s 31) (.c (.int .u8 45)))])
 (.cond (.s 32)
 (.seqj [5]
 (.seq
 (.reg [im 33 5,iq 34 (.bin .gtr (.s 33) (.c (.int .u64 9223372036854775808)))])
 (.cond (.s 34)
 (.seq
 (.reg [ik 2 0,ik 3 11])
 .ret)
 .skip))
 (.seq
 (.reg [im 35 5,iq 36 (.neg (.s 35)),iq 37 (.toint .i64 (.s 36)),im 2 37,ik 3 0])
 .ret))
 .skip))
 (.seqj [5]
 (.seq
 (.reg [im 38 5,iq 39 (.bin .gtr (.s 38) (.c (.int .u64 9223372036854775807)))])
 (.cond (.s 39)
 (.seq
 (.reg [ik 2 0,ik 3 11])
 .ret)
 .skip))
 (.seq
 (.reg [im 40 5,iq 41 (.toint .i64 (.s 40)),im 2 41,ik 3 0])
 .ret)))))))))}
theorem JpO :compFn Tryz.prog Tryz.f86 [[0,4],[0,4],[0,5],[0,4,5,6],[0,4,5,6],[0,4,5,6],[5],[5],[5]]=some KL:=by kernel_rfl
def KM :Eva.Fn:={ntmps:=68,res:=[.s 4, .s 5],body:=
 (.seq
 (.reg [iq 4 (.mv (.c (ofL []))),ik 5 0])
 (.seq
 (.reg [iq 6 (.mv (.c (ofL [])))])
 (.seq
 (.reg [im 8 1,iq 9 (.bin .add (.s 8) (.c (.int .i64 1))),im 1 9])
 (.seqj []
 (.block 0
 (.loop [0,1,6]
 (.seqj [0,1,6]
 (.seq
 (.reg [im 10 1,im 11 0,iq 12 (.lenS (.s 11)),iq 13 (.bin .lss (.s 10) (.s 12))])
 (.cond (.s 13)
 .skip
 (.exit 0)))
 (.block 1
 (.seq
 (.reg [im 14 0,im 15 1,iq 16 (.idxS (.s 14) (.s 15)),im 7 16])
 (.seqj [0,1,6]
 (.block 2
 (.seq
 (.reg [im 18 7,iq 19 (.eq (.one .i) false (.s 18) (.c (.int .u8 34))),im 17 19])
 (.cond (.s 17)
 (.seq
 (.reg [im 20 6,im 21 1,iq 22 (.bin .add (.s 21) (.c (.int .i64 1))),im 4 20,im 5 22])
 .ret)
 (.seq
 (.reg [im 24 7,iq 25 (.bin .lss (.s 24) (.c (.int .u8 32))),im 23 25])
 (.cond (.s 23)
 (.seq
 (.reg [iq 4 (.mv (.c (ofL []))),iq 5 (.mv (.c (.int .i64 (-1))))])
 .ret)
 (.seq
 (.reg [im 27 7,iq 28 (.eq (.one .i) true (.s 27) (.c (.int .u8 92))),im 26 28])
 (.cond (.s 26)
 (.seq
 (.reg [im 29 6,im 30 0,im 31 1,im 32 1,iq 33 (.bin .add (.s 32) (.c (.int .i64 1))),iq 34 (.cutS (.s 30) (some (.s 31)) (some (.s 33))),iq 35 (.bin .add (.s 29) (.s 34)),im 6 35])
 (.seq
 (.reg [im 36 1,iq 37 (.bin .add (.s 36) (.c (.int .i64 1))),im 1 37])
 (.exit 1)))
 .skip)))))))
 (.seqj [0,1,6]
 (.seq
 (.reg [im 38 1,iq 39 (.bin .add (.s 38) (.c (.int .i64 1))),im 40 0,iq 41 (.lenS (.s 40)),iq 42 (.bin .geq (.s 39) (.s 41))])
 (.cond (.s 42)
 (.seq
 (.reg [iq 4 (.mv (.c (ofL []))),iq 5 (.mv (.c (.int .i64 (-1))))])
 .ret)
 .skip))
 (.seqj [0,1,6]
 (.seq
 (.reg [im 43 0,im 44 1,iq 45 (.bin .add (.s 44) (.c (.int .i64 1))),iq 46 (.idxS (.s 43) (.s 45))])
 (.block 3
 (.seqj [0,1,6,46,47]
 (.seq
 (.reg [iq 48 (.eq (.one .i) false (.s 46) (.c (.int .u8 92))),im 47 48])
 (.cond (.s 47)
 .skip
 (.reg [iq 49 (.eq (.one .i) false (.s 46) (.c (.int .u8 34))),im 47 49])))
 (.cond (.s 47)
 (.reg [im 50 6,im 51 0,im 52 1,iq 53 (.bin .add (.s 52) (.c (.int .i64 1))),im 54 1,iq 55 (.bin .add (.s 54) (.c (.int .i64 2))),iq 56 (.cutS (.s 51) (some (.s 53)) (some (.s 55))),iq 57 (.bin .add (.s 50) (.s 56)),im 6 57])
 (.seq
 (.reg [iq 59 (.eq (.one .i) false (.s 46) (.c (.int .u8 110))),im 58 59])
 (.cond (.s 58)
 (.reg [im 60 6,iq 61 (.bin .add (.s 60) (.c (ofL [10]))),im 6 61])
 (.seq
 (.reg [iq 63 (.eq (.one .i) false (.s 46) (.c (.int .u8 116))),im 62 63])
 (.cond (.s 62)
 (.reg [im 64 6,iq 65 (.bin .add (.s 64) (.c (ofL [9]))),im 6 65])
 (.seq
 (.reg [iq 4 (.mv (.c (ofL []))),iq 5 (.mv (.c (.int .i64 (-1))))])
 .ret)))))))))
 (.reg [im 66 1,iq 67 (.bin .add (.s 66) (.c (.int .i64 2))),im 1 67])))))))))
 (.seq
 (.reg [iq 4 (.mv (.c (ofL []))),iq 5 (.mv (.c (.int .i64 (-1))))])
 .ret)))))}
theorem JpP :compFn Tryz.prog Tryz.f87 [[],[0,1,6],[0,1,6],[0,1,6],[0,1,6],[0,1,6],[0,1,6,46,47]]=some KM:=by kernel_rfl
def JU :Eva.Fn:={ntmps:=37,res:=[.s 4],body:=
 (.seq
 (.reg [iq 4 (.mv (.c (.bool false)))])
 (.seq
 (.drw [im 5 0,iq 6 (.nilck (.s 5)),ia 7 2 6,il 8 7,iq 9 (.eq (.one .i) false (.s 8) (.c (.int .i64 0))),im 10 9,ig 11 10 true (.mv (.s 0)),ig 12 10 true (.nilck (.s 11)),ig 13 10 true (.faddr 1 (.s 12)),ig 14 10 true (.load1 (.s 13)),ig 15 10 true (.mv (.s 0)),ig 16 10 true (.nilck (.s 15)),ig 17 10 true (.faddr 0 (.s 16)),ig 18 10 true (.load1 (.s 17)),ig 19 10 true (.lenL (.s 18)),ig 20 10 true (.bin .lss (.s 14) (.s 19)),iq 21 (.pick (.s 10) (.s 20) (.c (.bool false))),im 22 21,ig 23 22 true (.mv (.s 0)),ig 24 22 true (.nilck (.s 23)),ig 25 22 true (.faddr 0 (.s 24)),ig 26 22 true (.load1 (.s 25)),ig 27 22 true (.mv (.s 0)),ig 28 22 true (.nilck (.s 27)),ig 29 22 true (.faddr 1 (.s 28)),ig 30 22 true (.load1 (.s 29)),ig 31 22 true (.iaddrS 4 (.s 26) (.s 30)),ig 32 22 true (.faddr 0 (.s 31)),ig 33 22 true (.load1 (.s 32)),ig 34 22 true (.mv (.s 1)),ig 35 22 true (.eq (.one .i) false (.s 33) (.s 34)),iq 36 (.pick (.s 22) (.s 35) (.c (.bool false))),im 4 36] [])
 .ret))}
theorem JpQ :compFn Tryz.prog Tryz.f25 []=some JU:=by kernel_rfl
def Qk :Eva.Fn:={ntmps:=16,res:=[.s 2],body:=
 (.seq
 (.reg [iq 2 (.mv (.c (.bool false)))])
 (.seqj []
 (.seq
 (.reg [im 3 0])
 (.block 0
 (.seqj [4]
 (.seq
 (.reg [iq 5 (.eq (.one .s) false (.s 3) (.c (ofL [105,102]))),im 4 5])
 (.cond (.s 4)
 .skip
 (.seq
 (.reg [iq 6 (.eq (.one .s) false (.s 3) (.c (ofL [119,105,116,104]))),im 4 6])
 (.cond (.s 4)
 .skip
 (.seq
 (.reg [iq 7 (.eq (.one .s) false (.s 3) (.c (ofL [114,97,110,103,101]))),im 4 7])
 (.cond (.s 4)
 .skip
 (.seq
 (.reg [iq 8 (.eq (.one .s) false (.s 3) (.c (ofL [109,97,116,99,104]))),im 4 8])
 (.cond (.s 4)
 .skip
 (.seq
 (.reg [iq 9 (.eq (.one .s) false (.s 3) (.c (ofL [101,108,115,101]))),im 4 9])
 (.cond (.s 4)
 .skip
 (.seq
 (.reg [iq 10 (.eq (.one .s) false (.s 3) (.c (ofL [101,110,100]))),im 4 10])
 (.cond (.s 4)
 .skip
 (.seq
 (.reg [iq 11 (.eq (.one .s) false (.s 3) (.c (ofL [99,97,115,101]))),im 4 11])
 (.cond (.s 4)
 .skip
 (.seq
 (.reg [iq 12 (.eq (.one .s) false (.s 3) (.c (ofL [116,101,109,112,108,97,116,101]))),im 4 12])
 (.cond (.s 4)
 .skip
 (.seq
 (.reg [iq 13 (.eq (.one .s) false (.s 3) (.c (ofL [100,101,102,105,110,101]))),im 4 13])
 (.cond (.s 4)
 .skip
 (.seq
 (.reg [iq 14 (.eq (.one .s) false (.s 3) (.c (ofL [116,114,117,101]))),im 4 14])
 (.cond (.s 4)
 .skip
 (.reg [iq 15 (.eq (.one .s) false (.s 3) (.c (ofL [102,97,108,115,101]))),im 4 15])))))))))))))))))))))
 (.cond (.s 4)
 (.seq
 (.reg [iq 2 (.mv (.c (.bool true)))])
 .ret)
 .skip))))
 (.seq
 (.reg [iq 2 (.mv (.c (.bool false)))])
 .ret)))}
theorem JpR :compFn Tryz.prog Tryz.f26 [[],[4]]=some Qk:=by kernel_rfl
def Ql :Eva.Fn:={ntmps:=10,res:=[.s 2],body:=
 (.seq
 (.reg [ik 2 0])
 (.seqj []
 (.seq
 (.reg [im 3 0])
 (.block 0
 (.seq
 (.reg [iq 5 (.eq (.one .s) false (.s 3) (.c (ofL [105,102]))),im 4 5])
 (.cond (.s 4)
 (.seq
 (.reg [ik 2 5])
 .ret)
 (.seq
 (.reg [iq 7 (.eq (.one .s) false (.s 3) (.c (ofL [119,105,116,104]))),im 6 7])
 (.cond (.s 6)
 (.seq
 (.reg [ik 2 6])
 .ret)
 (.seq
 (.reg [iq 9 (.eq (.one .s) false (.s 3) (.c (ofL [114,97,110,103,101]))),im 8 9])
 (.cond (.s 8)
 (.seq
 (.reg [ik 2 7])
 .ret)
 .skip))))))))
 (.seq
 (.reg [ik 2 8])
 .ret)))}
theorem JpS :compFn Tryz.prog Tryz.f27 [[]]=some Ql:=by kernel_rfl
def JV :Eva.Fn:={ntmps:=26,res:=[.s 4],body:=
 (.seq
 (.reg [iq 4 (.mv (.c .snil))])
 (.seq
 (.reg [im 6 0,im 7 1,iq 8 (.call 57 [.s 6, .s 7]),iq 9 (.bsl 1 1 [.snil] [(0,1,(.s 8))]),im 5 9])
 (.seqj [5]
 (.block 0
 (.loop [0,1,5]
 (.seqj [0,1,5]
 (.seq
 (.reg [im 10 0,iq 11 (.call 30 [.s 10,(.c (ofL [124]))])])
 (.cond (.s 11)
 .skip
 (.exit 0)))
 (.block 1
 (.seq
 (.reg [im 12 0,iq 13 (.nilck (.s 12)),ia 14 1 13,il 15 14,iq 16 (.bin .add (.s 15) (.c (.int .i64 1))),iq 17 (.nilck (.s 12)),ia 18 1 17,iz (.store 1 (.s 18) (.s 16))])
 (.reg [im 19 5,im 20 0,im 21 1,iq 22 (.call 57 [.s 20, .s 21]),iq 23 (.bsl 1 1 [.snil] [(0,1,(.s 22))]),iq 24 (.app 1 (.s 19) (.s 23)),im 5 24]))))))
 (.seq
 (.reg [im 25 5,im 4 25])
 .ret))))}
theorem JpT :compFn Tryz.prog Tryz.f28 [[5],[0,1,5],[0,1,5]]=some JV:=by kernel_rfl
def JH :Eva.Fn:={ntmps:=52,res:=[(.cn 4 1)],body:=
 (.seq
 (.reg [iq 4 (.alloc [.snil])])
 (.seqj [0,1,4]
 (.seq
 (.drw [im 6 0,⟨(some 7),(.call 25 [.s 6,(.c (.int .i64 1))]),none,(some [])⟩,iq 8 (.not (.s 7)),im 9 8,ig 10 9 false (.mv (.s 0)),ig 11 9 false (.nilck (.s 10)),ig 12 9 false (.faddr 0 (.s 11)),ig 13 9 false (.load1 (.s 12)),ig 14 9 false (.mv (.s 0)),ig 15 9 false (.nilck (.s 14)),ig 16 9 false (.faddr 1 (.s 15)),ig 17 9 false (.load1 (.s 16)),ig 18 9 false (.iaddrS 4 (.s 13) (.s 17)),ig 19 9 false (.faddr 1 (.s 18)),ig 20 9 false (.load1 (.s 19)),⟨(some 21),(.call 26 [.s 20]),(some (9,false)),(some [])⟩,iq 22 (.pick (.s 9) (.c (.bool true)) (.s 21))] [])
 (.cond (.s 22)
 (.seq
 (.reg [im 23 0,im 24 1,iq 25 (.call 88 [.s 23, .s 24]),iq 26 (.bsl 7 1 [(.int .i64 0),(ofL []), .snil,(ofL []),(.int .i64 0),(.bool false), .snil] [(0,7,(.s 25))]),iq 27 (.build [.snil] [(0,1,(.s 26))]),iz (.store 1 (.s 4) (.s 27))])
 .ret)
 .skip))
 (.seq
 (.reg [im 28 0,iq 29 (.call 29 [.s 28,(.c (.int .i64 1))]),iq 30 (.fld 1 none (.s 29)),iq 31 (.build [(.int .i64 0),(ofL []), .snil,(ofL []),(.int .i64 0),(.bool false), .snil] [(0,1,(.c (.int .i64 6))),(3,1,(.s 30))]),iq 32 (.bsl 7 1 [(.int .i64 0),(ofL []), .snil,(ofL []),(.int .i64 0),(.bool false), .snil] [(0,7,(.s 31))]),iq 33 (.build [.snil] [(0,1,(.s 32))]),iq 5 (.alloc [.snil]),iz (.store 1 (.s 5) (.s 33))])
 (.seqj [4,5]
 (.block 0
 (.loop [0,1,4,5]
 (.seqj [0,1,4,5]
 (.seq
 (.reg [im 34 0,iq 35 (.call 89 [.s 34])])
 (.cond (.s 35)
 .skip
 (.exit 0)))
 (.block 1
 (.seqj [0,1,4,5]
 (.seq
 (.reg [ia 36 0 5,il 37 36,iq 38 (.lenL (.s 37)),iq 39 (.bin .gtr (.s 38) (.c (.int .i64 4)))])
 (.cond (.s 39)
 (.seq
 (.reg [im 40 0,iq 41 (.call 58 [.s 40,(.c (.int .i64 18))])])
 (.seq
 (.reg [iq 42 (.loadn 1 (.s 5)),iz (.store 1 (.s 4) (.s 42))])
 .ret))
 .skip))
 (.drw [ia 43 0 5,il 44 43,im 45 0,im 46 1,⟨(some 47),(.call 88 [.s 45, .s 46]),none,(some [43])⟩,iq 48 (.bsl 7 1 [(.int .i64 0),(ofL []), .snil,(ofL []),(.int .i64 0),(.bool false), .snil] [(0,7,(.s 47))]),iq 49 (.app 7 (.s 44) (.s 48)),ia 50 0 5,iz (.store 1 (.s 50) (.s 49))] []))))))
 (.seq
 (.reg [iq 51 (.loadn 1 (.s 5)),iz (.store 1 (.s 4) (.s 51))])
 .ret)))))}
theorem JpU :compFn Tryz.prog Tryz.f57 [[0,1,4],[4,5],[0,1,4,5],[0,1,4,5],[0,1,4,5]]=some JH:=by kernel_rfl
def JI :Eva.Fn:={ntmps:=131,res:=[(.cn 4 7)],body:=
 (.seq
 (.reg [iq 4 (.alloc [(.int .i64 0),(ofL []), .snil,(ofL []),(.int .i64 0),(.bool false), .snil])])
 (.seqj [0,1,4]
 (.seq
 (.reg [im 9 0,iq 10 (.call 89 [.s 9]),iq 11 (.not (.s 10))])
 (.cond (.s 11)
 (.seq
 (.reg [im 12 0,iq 13 (.call 58 [.s 12,(.c (.int .i64 12))])])
 (.seq
 (.reg [iq 14 (.build [(.int .i64 0),(ofL []), .snil,(ofL []),(.int .i64 0),(.bool false), .snil] []),iz (.store 7 (.s 4) (.s 14))])
 .ret))
 .skip))
 (.seq
 (.drw [im 15 0,iq 16 (.nilck (.s 15)),ia 17 0 16,il 18 17,im 19 0,iq 20 (.nilck (.s 19)),ia 21 1 20,il 22 21,iq 23 (.iaddrS 4 (.s 18) (.s 22)),iq 24 (.loadn 4 (.s 23)),iq 5 (.alloc [(.int .i64 0),(ofL []),(.int .i64 0),(.int .i64 0)]),iz (.store 4 (.s 5) (.s 24))] [])
 (.seqj [0,4]
 (.block 0
 (.seq
 (.reg [ia 26 0 5,il 27 26,iq 28 (.eq (.one .i) false (.s 27) (.c (.int .i64 2))),im 25 28])
 (.cond (.s 25)
 (.seq
 (.reg [im 29 0,iq 30 (.nilck (.s 29)),ia 31 1 30,il 32 31,iq 33 (.bin .add (.s 32) (.c (.int .i64 1))),iq 34 (.nilck (.s 29)),ia 35 1 34,iz (.store 1 (.s 35) (.s 33))])
 (.seq
 (.reg [ia 36 1 5,il 37 36,iq 38 (.build [(.int .i64 0),(ofL []), .snil,(ofL []),(.int .i64 0),(.bool false), .snil] [(0,1,(.c (.int .i64 2))),(3,1,(.s 37))]),iz (.store 7 (.s 4) (.s 38))])
 .ret))
 (.seq
 (.reg [ia 40 0 5,il 41 40,iq 42 (.eq (.one .i) false (.s 41) (.c (.int .i64 3))),im 39 42])
 (.cond (.s 39)
 (.seq
 (.reg [im 43 0,iq 44 (.nilck (.s 43)),ia 45 1 44,il 46 45,iq 47 (.bin .add (.s 46) (.c (.int .i64 1))),iq 48 (.nilck (.s 43)),ia 49 1 48,iz (.store 1 (.s 49) (.s 47))])
 (.seq
 (.reg [ia 50 2 5,il 51 50,iq 52 (.build [(.int .i64 0),(ofL []), .snil,(ofL []),(.int .i64 0),(.bool false), .snil] [(0,1,(.c (.int .i64 3))),(4,1,(.s 51))]),iz (.store 7 (.s 4) (.s 52))])
 .ret))
 (.seq
 (.reg [ia 54 0 5,il 55 54,iq 56 (.eq (.one .i) false (.s 55) (.c (.int .i64 1))),im 53 56])
 (.cond (.s 53)
 (.seq
 (.reg [im 57 0,iq 58 (.nilck (.s 57)),ia 59 1 58,il 60 59,iq 61 (.bin .add (.s 60) (.c (.int .i64 1))),iq 62 (.nilck (.s 57)),ia 63 1 62,iz (.store 1 (.s 63) (.s 61))])
 (.seq
 (.reg [ia 64 1 5,il 65 64,iq 66 (.eq (.one .s) false (.s 65) (.c (ofL [116,114,117,101]))),iq 67 (.build [(.int .i64 0),(ofL []), .snil,(ofL []),(.int .i64 0),(.bool false), .snil] [(0,1,(.c (.int .i64 4))),(5,1,(.s 66))]),iz (.store 7 (.s 4) (.s 67))])
 .ret))
 (.seq
 (.reg [ia 69 1 5,il 70 69,iq 71 (.eq (.one .s) false (.s 70) (.c (ofL [36]))),im 68 71])
 (.cond (.s 68)
 (.seq
 (.reg [im 72 0,iq 73 (.nilck (.s 72)),ia 74 1 73,il 75 74,iq 76 (.bin .add (.s 75) (.c (.int .i64 1))),iq 77 (.nilck (.s 72)),ia 78 1 77,iz (.store 1 (.s 78) (.s 76))])
 (.seq
 (.reg [im 79 0,iq 80 (.call 29 [.s 79,(.c (.int .i64 1))]),iq 6 (.alloc [(.int .i64 0),(ofL []),(.int .i64 0),(.int .i64 0)]),iz (.store 4 (.s 6) (.s 80))])
 (.seq
 (.drw [ia 81 1 6,il 82 81,im 83 0,ia 84 3 6,il 85 84,ia 86 1 6,il 87 86,iq 88 (.lenS (.s 87)),iq 89 (.bin .add (.s 85) (.s 88)),⟨(some 90),(.call 116 [.s 83, .s 89]),none,(some [81])⟩,iq 91 (.build [(.int .i64 0),(ofL []), .snil,(ofL []),(.int .i64 0),(.bool false), .snil] [(0,1,(.c (.int .i64 1))),(1,1,(.s 82)),(2,1,(.s 90))]),iz (.store 7 (.s 4) (.s 91))] [])
 .ret)))
 (.seq
 (.reg [ia 93 1 5,il 94 93,iq 95 (.eq (.one .s) false (.s 94) (.c (ofL [40]))),im 92 95])
 (.cond (.s 92)
 (.seqj [0,1,4]
 (.seq
 (.reg [im 96 1,iq 97 (.bin .add (.s 96) (.c (.int .i64 1))),iq 98 (.bin .gtr (.s 97) (.c (.int .i64 12)))])
 (.cond (.s 98)
 (.seq
 (.reg [im 99 0,iq 100 (.call 58 [.s 99,(.c (.int .i64 13))])])
 (.seq
 (.reg [iq 101 (.build [(.int .i64 0),(ofL []), .snil,(ofL []),(.int .i64 0),(.bool false), .snil] []),iz (.store 7 (.s 4) (.s 101))])
 .ret))
 .skip))
 (.seq
 (.reg [im 102 0,iq 103 (.nilck (.s 102)),ia 104 1 103,il 105 104,iq 106 (.bin .add (.s 105) (.c (.int .i64 1))),iq 107 (.nilck (.s 102)),ia 108 1 107,iz (.store 1 (.s 108) (.s 106))])
 (.seq
 (.reg [im 109 0,im 110 1,iq 111 (.bin .add (.s 110) (.c (.int .i64 1))),iq 112 (.call 28 [.s 109, .s 111]),im 7 112])
 (.seq
 (.reg [im 113 0,iq 114 (.call 117 [.s 113,(.c (ofL [41]))])])
 (.seq
 (.reg [im 115 7,iq 116 (.build [(.int .i64 0),(ofL []), .snil,(ofL []),(.int .i64 0),(.bool false), .snil] [(0,1,(.c (.int .i64 5))),(6,1,(.s 115))]),iz (.store 7 (.s 4) (.s 116))])
 .ret)))))
 .skip)))))))))))
 (.seq
 (.reg [im 117 0,iq 118 (.call 116 [.s 117,(.c (.int .i64 (-1)))]),im 8 118])
 (.seqj [4,8]
 (.seq
 (.reg [im 119 8,iq 120 (.lenL (.s 119)),iq 121 (.eq (.one .i) false (.s 120) (.c (.int .i64 0)))])
 (.cond (.s 121)
 (.reg [im 122 0,iq 123 (.nilck (.s 122)),ia 124 1 123,il 125 124,iq 126 (.bin .add (.s 125) (.c (.int .i64 1))),iq 127 (.nilck (.s 122)),ia 128 1 127,iz (.store 1 (.s 128) (.s 126))])
 .skip))
 (.seq
 (.reg [im 129 8,iq 130 (.build [(.int .i64 0),(ofL []), .snil,(ofL []),(.int .i64 0),(.bool false), .snil] [(0,1,(.c (.int .i64 1))),(2,1,(.s 129))]),iz (.store 7 (.s 4) (.s 130))])
 .ret)))))))}
theorem JpV :compFn Tryz.prog Tryz.f88 [[0,1,4],[0,4],[0,1,4],[4,8]]=some JI:=by kernel_rfl
def JL :Eva.Fn:={ntmps:=53,res:=[.s 2],body:=
 (.seq
 (.reg [iq 2 (.mv (.c (.bool false)))])
 (.seq
 (.drw [im 3 0,⟨(some 4),(.call 25 [.s 3,(.c (.int .i64 2))]),none,(some [])⟩,im 5 4,ig 6 5 false (.mv (.s 0)),⟨(some 7),(.call 25 [.s 6,(.c (.int .i64 3))]),(some (5,false)),(some [])⟩,iq 8 (.pick (.s 5) (.c (.bool true)) (.s 7)),im 9 8,ig 10 9 false (.mv (.s 0)),⟨(some 11),(.call 30 [.s 10,(.c (ofL [46]))]),(some (9,false)),(some [])⟩,iq 12 (.pick (.s 9) (.c (.bool true)) (.s 11)),im 13 12,ig 14 13 false (.mv (.s 0)),⟨(some 15),(.call 30 [.s 14,(.c (ofL [36]))]),(some (13,false)),(some [])⟩,iq 16 (.pick (.s 13) (.c (.bool true)) (.s 15)),im 17 16,ig 18 17 false (.mv (.s 0)),⟨(some 19),(.call 30 [.s 18,(.c (ofL [40]))]),(some (17,false)),(some [])⟩,iq 20 (.pick (.s 17) (.c (.bool true)) (.s 19)),im 21 20,ig 22 21 false (.mv (.s 0)),⟨(some 23),(.call 25 [.s 22,(.c (.int .i64 1))]),(some (21,false)),(some [])⟩,ig 24 21 false (.mv (.s 23)),ig 25 24 true (.mv (.s 0)),ig 26 24 true (.nilck (.s 25)),ig 27 24 true (.faddr 0 (.s 26)),ig 28 24 true (.load1 (.s 27)),ig 29 24 true (.mv (.s 0)),ig 30 24 true (.nilck (.s 29)),ig 31 24 true (.faddr 1 (.s 30)),ig 32 24 true (.load1 (.s 31)),ig 33 24 true (.iaddrS 4 (.s 28) (.s 32)),ig 34 24 true (.faddr 1 (.s 33)),ig 35 24 true (.load1 (.s 34)),ig 36 24 true (.eq (.one .s) false (.s 35) (.c (ofL [116,114,117,101]))),ig 37 24 true (.mv (.s 36)),ig 38 37 false (.mv (.s 0)),ig 39 37 false (.nilck (.s 38)),ig 40 37 false (.faddr 0 (.s 39)),ig 41 37 false (.load1 (.s 40)),ig 42 37 false (.mv (.s 0)),ig 43 37 false (.nilck (.s 42)),ig 44 37 false (.faddr 1 (.s 43)),ig 45 37 false (.load1 (.s 44)),ig 46 37 false (.iaddrS 4 (.s 41) (.s 45)),ig 47 37 false (.faddr 1 (.s 46)),ig 48 37 false (.load1 (.s 47)),ig 49 37 false (.eq (.one .s) false (.s 48) (.c (ofL [102,97,108,115,101]))),ig 50 24 true (.pick (.s 37) (.c (.bool true)) (.s 49)),ig 51 21 false (.pick (.s 24) (.s 50) (.c (.bool false))),iq 52 (.pick (.s 21) (.c (.bool true)) (.s 51)),im 2 52] [])
 .ret))}
theorem JpW :compFn Tryz.prog Tryz.f89 []=some JL:=by kernel_rfl
def JW :Eva.Fn:={ntmps:=51,res:=[.s 4],body:=
 (.seq
 (.reg [iq 4 (.mv (.c (.bool false)))])
 (.seq
 (.drw [im 5 0,iq 6 (.nilck (.s 5)),ia 7 2 6,il 8 7,iq 9 (.eq (.one .i) false (.s 8) (.c (.int .i64 0))),im 10 9,ig 11 10 true (.mv (.s 0)),ig 12 10 true (.nilck (.s 11)),ig 13 10 true (.faddr 1 (.s 12)),ig 14 10 true (.load1 (.s 13)),ig 15 10 true (.mv (.s 0)),ig 16 10 true (.nilck (.s 15)),ig 17 10 true (.faddr 0 (.s 16)),ig 18 10 true (.load1 (.s 17)),ig 19 10 true (.lenL (.s 18)),ig 20 10 true (.bin .lss (.s 14) (.s 19)),iq 21 (.pick (.s 10) (.s 20) (.c (.bool false))),im 22 21,ig 23 22 true (.mv (.s 0)),ig 24 22 true (.nilck (.s 23)),ig 25 22 true (.faddr 0 (.s 24)),ig 26 22 true (.load1 (.s 25)),ig 27 22 true (.mv (.s 0)),ig 28 22 true (.nilck (.s 27)),ig 29 22 true (.faddr 1 (.s 28)),ig 30 22 true (.load1 (.s 29)),ig 31 22 true (.iaddrS 4 (.s 26) (.s 30)),ig 32 22 true (.faddr 0 (.s 31)),ig 33 22 true (.load1 (.s 32)),ig 34 22 true (.eq (.one .i) false (.s 33) (.c (.int .i64 4))),iq 35 (.pick (.s 22) (.s 34) (.c (.bool false))),im 36 35,ig 37 36 true (.mv (.s 0)),ig 38 36 true (.nilck (.s 37)),ig 39 36 true (.faddr 0 (.s 38)),ig 40 36 true (.load1 (.s 39)),ig 41 36 true (.mv (.s 0)),ig 42 36 true (.nilck (.s 41)),ig 43 36 true (.faddr 1 (.s 42)),ig 44 36 true (.load1 (.s 43)),ig 45 36 true (.iaddrS 4 (.s 40) (.s 44)),ig 46 36 true (.faddr 1 (.s 45)),ig 47 36 true (.load1 (.s 46)),ig 48 36 true (.mv (.s 1)),ig 49 36 true (.eq (.one .s) false (.s 47) (.s 48)),iq 50 (.pick (.s 36) (.s 49) (.c (.bool false))),im 4 50] [])
 .ret))}
theorem JpX :compFn Tryz.prog Tryz.f30 []=some JW:=by kernel_rfl
def JX :Eva.Fn:={ntmps:=13,res:=[],body:=
 (.seq
 (.reg [im 4 0,iq 5 (.nilck (.s 4)),ia 6 2 5,il 7 6,iq 8 (.eq (.one .i) false (.s 7) (.c (.int .i64 0)))])
 (.cond (.s 8)
 (.reg [im 9 0,im 10 1,iq 11 (.nilck (.s 9)),ia 12 2 11,iz (.store 1 (.s 12) (.s 10))])
 .skip))}
theorem JpY :compFn Tryz.prog Tryz.f58 []=some JX:=by kernel_rfl
def JY :Eva.Fn:={ntmps:=30,res:=[(.cn 4 4)],body:=
 (.seq
 (.reg [iq 4 (.alloc [(.int .i64 0),(ofL []),(.int .i64 0),(.int .i64 0)])])
 (.seqj [0,4]
 (.seq
 (.reg [im 5 0,im 6 1,iq 7 (.call 25 [.s 5, .s 6]),iq 8 (.not (.s 7))])
 (.cond (.s 8)
 (.seq
 (.reg [im 9 0,iq 10 (.call 58 [.s 9,(.c (.int .i64 12))])])
 (.seq
 (.reg [iq 11 (.build [(.int .i64 0),(ofL []),(.int .i64 0),(.int .i64 0)] []),iz (.store 4 (.s 4) (.s 11))])
 .ret))
 .skip))
 (.seq
 (.reg [im 12 0,iq 13 (.nilck (.s 12)),ia 14 1 13,il 15 14,iq 16 (.bin .add (.s 15) (.c (.int .i64 1))),iq 17 (.nilck (.s 12)),ia 18 1 17,iz (.store 1 (.s 18) (.s 16))])
 (.seq
 (.drw [im 19 0,iq 20 (.nilck (.s 19)),ia 21 0 20,il 22 21,im 23 0,iq 24 (.nilck (.s 23)),ia 25 1 24,il 26 25,iq 27 (.bin .sub (.s 26) (.c (.int .i64 1))),iq 28 (.iaddrS 4 (.s 22) (.s 27)),iq 29 (.loadn 4 (.s 28)),iz (.store 4 (.s 4) (.s 29))] [])
 .ret))))}
theorem JpZ :compFn Tryz.prog Tryz.f29 [[0,4]]=some JY:=by kernel_rfl
def JM :Eva.Fn:={ntmps:=132,res:=[.s 4],body:=
 (.seq
 (.reg [iq 4 (.mv (.c .snil))])
 (.seq
 (.reg [iq 5 (.mv (.c .snil))])
 (.seqj [5]
 (.block 0
 (.loop [0,1,5]
 (.seqj [0,5]
 (.seq
 (.drw [im 6 0,⟨(some 7),(.call 30 [.s 6,(.c (ofL [46]))]),none,(some [])⟩,im 8 7,ig 9 8 true (.mv (.s 0)),ig 10 8 true (.nilck (.s 9)),ig 11 8 true (.faddr 1 (.s 10)),ig 12 8 true (.load1 (.s 11)),ig 13 8 true (.bin .add (.s 12) (.c (.int .i64 1))),ig 14 8 true (.mv (.s 0)),ig 15 8 true (.nilck (.s 14)),ig 16 8 true (.faddr 0 (.s 15)),ig 17 8 true (.load1 (.s 16)),ig 18 8 true (.lenL (.s 17)),ig 19 8 true (.bin .lss (.s 13) (.s 18)),iq 20 (.pick (.s 8) (.s 19) (.c (.bool false))),im 21 20,ig 22 21 true (.mv (.s 0)),ig 23 21 true (.nilck (.s 22)),ig 24 21 true (.faddr 0 (.s 23)),ig 25 21 true (.load1 (.s 24)),ig 26 21 true (.mv (.s 0)),ig 27 21 true (.nilck (.s 26)),ig 28 21 true (.faddr 1 (.s 27)),ig 29 21 true (.load1 (.s 28)),ig 30 21 true (.bin .add (.s 29) (.c (.int .i64 1))),ig 31 21 true (.iaddrS 4 (.s 25) (.s 30)),ig 32 21 true (.faddr 0 (.s 31)),ig 33 21 true (.load1 (.s 32)),ig 34 21 true (.eq (.one .i) false (.s 33) (.c (.int .i64 1))),iq 35 (.pick (.s 21) (.s 34) (.c (.bool false))),im 36 35,ig 37 36 true (.mv (.s 0)),ig 38 36 true (.nilck (.s 37)),ig 39 36 true (.faddr 0 (.s 38)),ig 40 36 true (.load1 (.s 39)),ig 41 36 true (.mv (.s 0)),ig 42 36 true (.nilck (.s 41)),ig 43 36 true (.faddr 1 (.s 42)),ig 44 36 true (.load1 (.s 43)),ig 45 36 true (.bin .add (.s 44) (.c (.int .i64 1))),ig 46 36 true (.iaddrS 4 (.s 40) (.s 45)),ig 47 36 true (.faddr 3 (.s 46)),ig 48 36 true (.load1 (.s 47)),ig 49 36 true (.mv (.s 0)),ig 50 36 true (.nilck (.s 49)),ig 51 36 true (.faddr 0 (.s 50)),ig 52 36 true (.load1 (.s 51)),ig 53 36 true (.mv (.s 0)),ig 54 36 true (.nilck (.s 53)),ig 55 36 true (.faddr 1 (.s 54)),ig 56 36 true (.load1 (.s 55)),ig 57 36 true (.iaddrS 4 (.s 52) (.s 56)),ig 58 36 true (.faddr 3 (.s 57)),ig 59 36 true (.load1 (.s 58)),ig 60 36 true (.bin .add (.s 59) (.c (.int .i64 1))),ig 61 36 true (.eq (.one .i) false (.s 48) (.s 60)),iq 62 (.pick (.s 36) (.s 61) (.c (.bool false))),im 63 62,ig 64 63 true (.mv (.s 1)),ig 65 63 true (.bin .lss (.s 64) (.c (.int .i64 0))),ig 66 63 true (.mv (.s 65)),ig 67 66 false (.mv (.s 0)),ig 68 66 false (.nilck (.s 67)),ig 69 66 false (.faddr 0 (.s 68)),ig 70 66 false (.load1 (.s 69)),ig 71 66 false (.mv (.s 0)),ig 72 66 false (.nilck (.s 71)),ig 73 66 false (.faddr 1 (.s 72)),ig 74 66 false (.load1 (.s 73)),ig 75 66 false (.iaddrS 4 (.s 70) (.s 74)),ig 76 66 false (.faddr 3 (.s 75)),ig 77 66 false (.load1 (.s 76)),ig 78 66 false (.mv (.s 1)),ig 79 66 false (.eq (.one .i) false (.s 77) (.s 78)),ig 80 63 true (.pick (.s 66) (.c (.bool true)) (.s 79)),iq 81 (.pick (.s 63) (.s 80) (.c (.bool false)))] [])
 (.cond (.s 81)
 .skip
 (.exit 0)))
 (.block 1
 (.seq
 (.drw [im 82 5,im 83 0,iq 84 (.nilck (.s 83)),ia 85 0 84,il 86 85,im 87 0,iq 88 (.nilck (.s 87)),ia 89 1 88,il 90 89,iq 91 (.bin .add (.s 90) (.c (.int .i64 1))),iq 92 (.iaddrS 4 (.s 86) (.s 91)),ia 93 1 92,il 94 93,iq 95 (.bsl 1 1 [(ofL [])] [(0,1,(.s 94))]),iq 96 (.app 1 (.s 82) (.s 95)),im 5 96] [])
 (.seq
 (.drw [im 97 0,iq 98 (.nilck (.s 97)),ia 99 0 98,il 100 99,im 101 0,iq 102 (.nilck (.s 101)),ia 103 1 102,il 104 103,iq 105 (.bin .add (.s 104) (.c (.int .i64 1))),iq 106 (.iaddrS 4 (.s 100) (.s 105)),ia 107 3 106,il 108 107,im 109 0,iq 110 (.nilck (.s 109)),ia 111 0 110,il 112 111,im 113 0,iq 114 (.nilck (.s 113)),ia 115 1 114,il 116 115,iq 117 (.bin .add (.s 116) (.c (.int .i64 1))),iq 118 (.iaddrS 4 (.s 112) (.s 117)),ia 119 1 118,il 120 119,iq 121 (.lenS (.s 120)),iq 122 (.bin .add (.s 108) (.s 121)),im 1 122] [])
 (.reg [im 123 0,im 124 0,iq 125 (.nilck (.s 124)),ia 126 1 125,il 127 126,iq 128 (.bin .add (.s 127) (.c (.int .i64 2))),iq 129 (.nilck (.s 123)),ia 130 1 129,iz (.store 1 (.s 130) (.s 128))])))))))
 (.seq
 (.reg [im 131 5,im 4 131])
 .ret))))}
theorem Jnl :compFn Tryz.prog Tryz.f116 [[5],[0,1,5],[0,5]]=some JM:=by kernel_rfl
def J5 :Eva.Fn:={ntmps:=16,res:=[],body:=
 (.seq
 (.reg [im 4 0,im 5 1,iq 6 (.call 30 [.s 4, .s 5])])
 (.cond (.s 6)
 (.reg [im 7 0,iq 8 (.nilck (.s 7)),ia 9 1 8,il 10 9,iq 11 (.bin .add (.s 10) (.c (.int .i64 1))),iq 12 (.nilck (.s 7)),ia 13 1 12,iz (.store 1 (.s 13) (.s 11))])
 (.reg [im 14 0,iq 15 (.call 58 [.s 14,(.c (.int .i64 12))])])))}
theorem Jnm :compFn Tryz.prog Tryz.f117 []=some J5:=by kernel_rfl
def J6 :Eva.Fn:={ntmps:=19,res:=[.s 2],body:=
 (.seq
 (.reg [ik 2 0])
 (.seqj [0]
 (.seq
 (.drw [im 3 0,iq 4 (.nilck (.s 3)),ia 5 1 4,il 6 5,im 7 0,iq 8 (.nilck (.s 7)),ia 9 0 8,il 10 9,iq 11 (.lenL (.s 10)),iq 12 (.bin .lss (.s 6) (.s 11))] [])
 (.cond (.s 12)
 (.reg [im 13 0,iq 14 (.call 58 [.s 13,(.c (.int .i64 12))])])
 .skip))
 (.seq
 (.reg [im 15 0,iq 16 (.nilck (.s 15)),ia 17 2 16,il 18 17,im 2 18])
 .ret)))}
theorem Jp0 :compFn Tryz.prog Tryz.f31 [[0]]=some J6:=by kernel_rfl
def Jv :Eva.Fn:={ntmps:=72,res:=[.s 6],body:=
 (.seq
 (.reg [iq 5 (.box (.s 2)),ik 6 0])
 (.seqj [0,5]
 (.seq
 (.reg [im 7 1])
 (.block 0
 (.seq
 (.reg [iq 9 (.eq (.one .s) false (.s 7) (.c (ofL [109,97,116,99,104]))),im 8 9])
 (.cond (.s 8)
 (.seq
 (.reg [im 10 0,im 11 1,iq 12 (.loadn 9 (.s 5)),iq 13 (.call 59 [.s 10, .s 11, .s 12,(.c (.int .i64 3)),(.c (ofL []))]),im 6 13])
 .ret)
 (.seqj [0,1,5,7,14]
 (.seq
 (.reg [iq 15 (.eq (.one .s) false (.s 7) (.c (ofL [105,102]))),im 14 15])
 (.cond (.s 14)
 .skip
 (.seq
 (.reg [iq 16 (.eq (.one .s) false (.s 7) (.c (ofL [119,105,116,104]))),im 14 16])
 (.cond (.s 14)
 .skip
 (.reg [iq 17 (.eq (.one .s) false (.s 7) (.c (ofL [114,97,110,103,101]))),im 14 17])))))
 (.cond (.s 14)
 (.seq
 (.reg [im 18 0,im 19 1,iq 20 (.loadn 9 (.s 5)),iq 21 (.call 59 [.s 18, .s 19, .s 20,(.c (.int .i64 0)),(.c (ofL []))]),im 6 21])
 .ret)
 (.seqj [0,1,5,7,22]
 (.seq
 (.reg [iq 23 (.eq (.one .s) false (.s 7) (.c (ofL [101,108,115,101]))),im 22 23])
 (.cond (.s 22)
 .skip
 (.reg [iq 24 (.eq (.one .s) false (.s 7) (.c (ofL [99,97,115,101]))),im 22 24])))
 (.cond (.s 22)
 (.seq
 (.reg [im 25 0,im 26 1,ia 27 3 5,il 28 27,iq 29 (.call 60 [.s 25, .s 26, .s 28]),im 6 29])
 .ret)
 (.seq
 (.reg [iq 31 (.eq (.one .s) false (.s 7) (.c (ofL [101,110,100]))),im 30 31])
 (.cond (.s 30)
 (.seq
 (.reg [im 32 0,iq 33 (.call 61 [.s 32]),im 6 33])
 .ret)
 (.seq
 (.reg [iq 35 (.eq (.one .s) false (.s 7) (.c (ofL [100,101,102,105,110,101]))),im 34 35])
 (.cond (.s 34)
 (.seq
 (.reg [im 36 0,ia 37 3 5,il 38 37,iq 39 (.call 62 [.s 36, .s 38]),im 6 39])
 .ret)
 (.seq
 (.reg [iq 41 (.eq (.one .s) false (.s 7) (.c (ofL [116,101,109,112,108,97,116,101]))),im 40 41])
 (.cond (.s 40)
 (.seqj [0,5]
 (.seq
 (.drw [im 42 0,iq 43 (.nilck (.s 42)),ia 44 0 43,il 45 44,iq 46 (.lenL (.s 45)),iq 47 (.bin .gtr (.s 46) (.c (.int .i64 0))),im 48 47,ig 49 48 true (.mv (.s 0)),ig 50 48 true (.nilck (.s 49)),ig 51 48 true (.faddr 0 (.s 50)),ig 52 48 true (.load1 (.s 51)),ig 53 48 true (.mv (.s 0)),ig 54 48 true (.nilck (.s 53)),ig 55 48 true (.faddr 0 (.s 54)),ig 56 48 true (.load1 (.s 55)),ig 57 48 true (.lenL (.s 56)),ig 58 48 true (.bin .sub (.s 57) (.c (.int .i64 1))),ig 59 48 true (.iaddrS 12 (.s 52) (.s 58)),ig 60 48 true (.faddr 10 (.s 59)),ig 61 48 true (.load1 (.s 60)),ig 62 48 true (.eq (.one .i) false (.s 61) (.c (.int .i64 3))),iq 63 (.pick (.s 48) (.s 62) (.c (.bool false)))] [])
 (.cond (.s 63)
 (.seq
 (.reg [ik 6 12])
 .ret)
 .skip))
 (.seq
 (.reg [ia 64 3 5,il 65 64,iq 66 (.call 47 [.s 65]),iq 67 (.not (.s 66))])
 (.cond (.s 67)
 (.seq
 (.reg [ik 6 15])
 .ret)
 .skip)))
 .skip))))))))))))))
 (.seqj []
 (.seq
 (.reg [im 68 0,iq 69 (.loadn 9 (.s 5)),iq 70 (.call 33 [.s 68, .s 69]),iq 71 (.not (.s 70))])
 (.cond (.s 71)
 (.seq
 (.reg [ik 6 12])
 .ret)
 .skip))
 (.seq
 (.reg [ik 6 0])
 .ret))))}
theorem Jp1 :compFn Tryz.prog Tryz.f32 [[0,5],[0,1,5,7,14],[0,1,5,7,22],[0,5],[]]=some Jv:=by kernel_rfl
def JD :Eva.Fn:={ntmps:=57,res:=[.s 10],body:=
 (.seq
 (.reg [iq 7 (.box (.s 2)),ik 10 0])
 (.seqj [0,1,3,4,7]
 (.seq
 (.drw [im 11 1,iq 12 (.eq (.one .s) true (.s 11) (.c (ofL [100,101,102,105,110,101]))),im 13 12,ig 14 13 true (.mv (.s 0)),ig 15 13 true (.nilck (.s 14)),ig 16 13 true (.faddr 0 (.s 15)),ig 17 13 true (.load1 (.s 16)),ig 18 13 true (.lenL (.s 17)),ig 19 13 true (.bin .gtr (.s 18) (.c (.int .i64 0))),iq 20 (.pick (.s 13) (.s 19) (.c (.bool false))),im 21 20,ig 22 21 true (.mv (.s 0)),ig 23 21 true (.nilck (.s 22)),ig 24 21 true (.faddr 0 (.s 23)),ig 25 21 true (.load1 (.s 24)),ig 26 21 true (.mv (.s 0)),ig 27 21 true (.nilck (.s 26)),ig 28 21 true (.faddr 0 (.s 27)),ig 29 21 true (.load1 (.s 28)),ig 30 21 true (.lenL (.s 29)),ig 31 21 true (.bin .sub (.s 30) (.c (.int .i64 1))),ig 32 21 true (.iaddrS 12 (.s 25) (.s 31)),ig 33 21 true (.faddr 10 (.s 32)),ig 34 21 true (.load1 (.s 33)),ig 35 21 true (.eq (.one .i) false (.s 34) (.c (.int .i64 3))),iq 36 (.pick (.s 21) (.s 35) (.c (.bool false)))] [])
 (.cond (.s 36)
 (.seq
 (.reg [ik 10 12])
 .ret)
 .skip))
 (.seqj [0,1,3,4,7]
 (.seq
 (.reg [im 37 0,iq 38 (.nilck (.s 37)),ia 39 0 38,il 40 39,iq 41 (.lenL (.s 40)),iq 42 (.bin .geq (.s 41) (.c (.int .i64 12)))])
 (.cond (.s 42)
 (.seq
 (.reg [ik 10 13])
 .ret)
 .skip))
 (.seq
 (.drw [im 43 0,im 44 0,iq 45 (.nilck (.s 44)),ia 46 0 45,il 47 46,im 48 1,iq 49 (.loadn 9 (.s 7)),im 50 3,im 51 4,iq 52 (.build [(ofL []),(.int .i64 0),(.int .i64 0),(ofL []),(ofL []), .snil, .snil, .snil,(.bool false), .snil,(.int .i64 0),(ofL [])] [(0,1,(.s 48)),(1,9,(.s 49)),(10,1,(.s 50)),(11,1,(.s 51))]),iq 53 (.bsl 12 1 [(ofL []),(.int .i64 0),(.int .i64 0),(ofL []),(ofL []), .snil, .snil, .snil,(.bool false), .snil,(.int .i64 0),(ofL [])] [(0,12,(.s 52))]),iq 54 (.app 12 (.s 47) (.s 53)),iq 55 (.nilck (.s 43)),ia 56 0 55,iz (.store 1 (.s 56) (.s 54))] [])
 (.seq
 (.reg [ik 10 0])
 .ret)))))}
theorem Jp2 :compFn Tryz.prog Tryz.f59 [[0,1,3,4,7],[0,1,3,4,7]]=some JD:=by kernel_rfl
def JE :Eva.Fn:={ntmps:=73,res:=[.s 6],body:=
 (.seq
 (.reg [ik 6 0])
 (.seqj [0,1,2]
 (.seq
 (.reg [im 8 0,iq 9 (.nilck (.s 8)),ia 10 0 9,il 11 10,iq 12 (.lenL (.s 11)),iq 13 (.eq (.one .i) false (.s 12) (.c (.int .i64 0)))])
 (.cond (.s 13)
 (.seq
 (.reg [ik 6 12])
 .ret)
 .skip))
 (.seq
 (.drw [im 14 0,iq 15 (.nilck (.s 14)),ia 16 0 15,il 17 16,im 18 0,iq 19 (.nilck (.s 18)),ia 20 0 19,il 21 20,iq 22 (.lenL (.s 21)),iq 23 (.bin .sub (.s 22) (.c (.int .i64 1))),iq 24 (.iaddrS 12 (.s 17) (.s 23)),im 7 24] [])
 (.seqj [1,2,7]
 (.seq
 (.reg [im 25 7,iq 26 (.nilck (.s 25)),ia 27 0 26,il 28 27,iq 29 (.eq (.one .s) false (.s 28) (.c (ofL [100,101,102,105,110,101]))),im 30 29,ig 31 30 false (.mv (.s 7)),ig 32 30 false (.nilck (.s 31)),ig 33 30 false (.faddr 1 (.s 32)),ig 34 30 false (.faddr 7 (.s 33)),ig 35 30 false (.load1 (.s 34)),iq 36 (.pick (.s 30) (.c (.bool true)) (.s 35)),im 37 36,ig 38 37 false (.mv (.s 1)),ig 39 37 false (.eq (.one .s) false (.s 38) (.c (ofL [99,97,115,101]))),ig 40 37 false (.mv (.s 39)),ig 41 40 true (.mv (.s 7)),ig 42 40 true (.nilck (.s 41)),ig 43 40 true (.faddr 0 (.s 42)),ig 44 40 true (.load1 (.s 43)),ig 45 40 true (.eq (.one .s) true (.s 44) (.c (ofL [109,97,116,99,104]))),ig 46 37 false (.pick (.s 40) (.s 45) (.c (.bool false))),iq 47 (.pick (.s 37) (.c (.bool true)) (.s 46))])
 (.cond (.s 47)
 (.seq
 (.reg [ik 6 12])
 .ret)
 .skip))
 (.seqj [2,7]
 (.seq
 (.reg [im 48 1,iq 49 (.eq (.one .s) false (.s 48) (.c (ofL [101,108,115,101])))])
 (.cond (.s 49)
 (.seq
 (.reg [im 50 7,iq 51 (.nilck (.s 50)),ia 52 1 51,ia 53 7 52,iz (.store 1 (.s 53) (.c (.bool true)))])
 (.seq
 (.reg [im 54 7,iq 55 (.nilck (.s 54)),ia 56 10 55,iz (.store 1 (.s 56) (.c (.int .i64 1)))])
 (.seq
 (.reg [ik 6 0])
 .ret)))
 .skip))
 (.seq
 (.reg [im 57 7,im 58 7,iq 59 (.nilck (.s 58)),ia 60 1 59,ia 61 8 60,il 62 61,im 63 2,iq 64 (.build [(ofL []), .snil] [(0,1,(.s 63))]),iq 65 (.bsl 2 1 [(ofL []), .snil] [(0,2,(.s 64))]),iq 66 (.app 2 (.s 62) (.s 65)),iq 67 (.nilck (.s 57)),ia 68 1 67,ia 69 8 68,iz (.store 1 (.s 69) (.s 66))])
 (.seq
 (.reg [im 70 7,iq 71 (.nilck (.s 70)),ia 72 10 71,iz (.store 1 (.s 72) (.c (.int .i64 2)))])
 (.seq
 (.reg [ik 6 0])
 .ret))))))))}
theorem Jp3 :compFn Tryz.prog Tryz.f60 [[0,1,2],[1,2,7],[2,7]]=some JE:=by kernel_rfl
def JR :Eva.Fn:={ntmps:=58,res:=[.s 2],body:=
 (.seq
 (.reg [ik 2 0])
 (.seqj [0]
 (.seq
 (.reg [im 4 0,iq 5 (.nilck (.s 4)),ia 6 0 5,il 7 6,iq 8 (.lenL (.s 7)),iq 9 (.eq (.one .i) false (.s 8) (.c (.int .i64 0)))])
 (.cond (.s 9)
 (.seq
 (.reg [ik 2 12])
 .ret)
 .skip))
 (.seq
 (.drw [im 10 0,iq 11 (.nilck (.s 10)),ia 12 0 11,il 13 12,im 14 0,iq 15 (.nilck (.s 14)),ia 16 0 15,il 17 16,iq 18 (.lenL (.s 17)),iq 19 (.bin .sub (.s 18) (.c (.int .i64 1))),iq 20 (.iaddrS 12 (.s 13) (.s 19)),iq 21 (.loadn 12 (.s 20)),iq 3 (.alloc [(ofL []),(.int .i64 0),(.int .i64 0),(ofL []),(ofL []), .snil, .snil, .snil,(.bool false), .snil,(.int .i64 0),(ofL [])]),iz (.store 12 (.s 3) (.s 21))] [])
 (.seq
 (.drw [im 22 0,im 23 0,iq 24 (.nilck (.s 23)),ia 25 0 24,il 26 25,im 27 0,iq 28 (.nilck (.s 27)),ia 29 0 28,il 30 29,iq 31 (.lenL (.s 30)),iq 32 (.bin .sub (.s 31) (.c (.int .i64 1))),iq 33 (.cutL 12 (.s 26) none (some (.s 32)) none),iq 34 (.nilck (.s 22)),ia 35 0 34,iz (.store 1 (.s 35) (.s 33))] [])
 (.seqj []
 (.seq
 (.reg [ia 36 0 3,il 37 36,iq 38 (.eq (.one .s) false (.s 37) (.c (ofL [100,101,102,105,110,101])))])
 (.cond (.s 38)
 (.drw [im 39 0,im 40 0,iq 41 (.nilck (.s 40)),ia 42 2 41,il 43 42,ia 44 11 3,il 45 44,ia 46 1 3,ia 47 5 46,il 48 47,iq 49 (.build [(ofL []), .snil] [(0,1,(.s 45)),(1,1,(.s 48))]),iq 50 (.bsl 2 1 [(ofL []), .snil] [(0,2,(.s 49))]),iq 51 (.app 2 (.s 43) (.s 50)),iq 52 (.nilck (.s 39)),ia 53 2 52,iz (.store 1 (.s 53) (.s 51))] [])
 (.reg [im 54 0,ia 55 1 3,iq 56 (.loadn 9 (.s 55)),iq 57 (.call 33 [.s 54, .s 56])])))
 (.seq
 (.reg [ik 2 0])
 .ret))))))}
theorem Jp4 :compFn Tryz.prog Tryz.f61 [[0],[]]=some JR:=by kernel_rfl
def JN :Eva.Fn:={ntmps:=95,res:=[.s 4],body:=
 (.seq
 (.reg [iq 3 (.box (.s 1)),iq 4 (.mv (.c (.bool false)))])
 (.seqj [0,3]
 (.seq
 (.reg [im 7 0,iq 8 (.nilck (.s 7)),ia 9 0 8,il 10 9,iq 11 (.lenL (.s 10)),iq 12 (.eq (.one .i) false (.s 11) (.c (.int .i64 0)))])
 (.cond (.s 12)
 (.seq
 (.drw [im 13 0,iq 14 (.nilck (.s 13)),ia 15 1 14,il 16 15,iq 17 (.loadn 9 (.s 3)),iq 18 (.lenL (.s 16)),iq 19 (.bsl 9 1 [(.int .i64 0),(.int .i64 0),(ofL []),(ofL []), .snil, .snil, .snil,(.bool false), .snil] [(0,9,(.c (.agg [(.int .i64 0),(.int .i64 0),(ofL []),(ofL []), .snil, .snil, .snil,(.bool false), .snil])))]),iq 20 (.app 9 (.s 16) (.s 19)),iq 21 (.iaddrS 9 (.s 20) (.s 18)),iz (.store 9 (.s 21) (.s 17)),iq 22 (.nilck (.s 13)),ia 23 1 22,iz (.store 1 (.s 23) (.s 20))] [([21],[23]),([23],[21])])
 (.seq
 (.reg [iq 4 (.mv (.c (.bool true)))])
 .ret))
 .skip))
 (.seq
 (.drw [im 24 0,iq 25 (.nilck (.s 24)),ia 26 0 25,il 27 26,im 28 0,iq 29 (.nilck (.s 28)),ia 30 0 29,il 31 30,iq 32 (.lenL (.s 31)),iq 33 (.bin .sub (.s 32) (.c (.int .i64 1))),iq 34 (.iaddrS 12 (.s 27) (.s 33)),im 5 34] [])
 (.seqj []
 (.seq
 (.reg [im 35 5,iq 36 (.nilck (.s 35)),ia 37 10 36,il 38 37])
 (.block 0
 (.seq
 (.reg [iq 40 (.eq (.one .i) false (.s 38) (.c (.int .i64 0))),im 39 40])
 (.cond (.s 39)
 (.drw [im 41 5,iq 42 (.nilck (.s 41)),ia 43 1 42,ia 44 5 43,il 45 44,iq 46 (.loadn 9 (.s 3)),iq 47 (.lenL (.s 45)),iq 48 (.bsl 9 1 [(.int .i64 0),(.int .i64 0),(ofL []),(ofL []), .snil, .snil, .snil,(.bool false), .snil] [(0,9,(.c (.agg [(.int .i64 0),(.int .i64 0),(ofL []),(ofL []), .snil, .snil, .snil,(.bool false), .snil])))]),iq 49 (.app 9 (.s 45) (.s 48)),iq 50 (.iaddrS 9 (.s 49) (.s 47)),iz (.store 9 (.s 50) (.s 46)),iq 51 (.nilck (.s 41)),ia 52 1 51,ia 53 5 52,iz (.store 1 (.s 53) (.s 49))] [([50],[53]),([53],[50])])
 (.seq
 (.reg [iq 55 (.eq (.one .i) false (.s 38) (.c (.int .i64 1))),im 54 55])
 (.cond (.s 54)
 (.drw [im 56 5,iq 57 (.nilck (.s 56)),ia 58 1 57,ia 59 6 58,il 60 59,iq 61 (.loadn 9 (.s 3)),iq 62 (.lenL (.s 60)),iq 63 (.bsl 9 1 [(.int .i64 0),(.int .i64 0),(ofL []),(ofL []), .snil, .snil, .snil,(.bool false), .snil] [(0,9,(.c (.agg [(.int .i64 0),(.int .i64 0),(ofL []),(ofL []), .snil, .snil, .snil,(.bool false), .snil])))]),iq 64 (.app 9 (.s 60) (.s 63)),iq 65 (.iaddrS 9 (.s 64) (.s 62)),iz (.store 9 (.s 65) (.s 61)),iq 66 (.nilck (.s 56)),ia 67 1 66,ia 68 6 67,iz (.store 1 (.s 68) (.s 64))] [([65],[68]),([68],[65])])
 (.seq
 (.reg [iq 70 (.eq (.one .i) false (.s 38) (.c (.int .i64 2))),im 69 70])
 (.cond (.s 69)
 (.seq
 (.drw [im 71 5,iq 72 (.nilck (.s 71)),ia 73 1 72,ia 74 8 73,il 75 74,im 76 5,iq 77 (.nilck (.s 76)),ia 78 1 77,ia 79 8 78,il 80 79,iq 81 (.lenL (.s 80)),iq 82 (.bin .sub (.s 81) (.c (.int .i64 1))),iq 83 (.iaddrS 2 (.s 75) (.s 82)),im 6 83] [])
 (.drw [im 84 6,iq 85 (.nilck (.s 84)),ia 86 1 85,il 87 86,iq 88 (.loadn 9 (.s 3)),iq 89 (.lenL (.s 87)),iq 90 (.bsl 9 1 [(.int .i64 0),(.int .i64 0),(ofL []),(ofL []), .snil, .snil, .snil,(.bool false), .snil] [(0,9,(.c (.agg [(.int .i64 0),(.int .i64 0),(ofL []),(ofL []), .snil, .snil, .snil,(.bool false), .snil])))]),iq 91 (.app 9 (.s 87) (.s 90)),iq 92 (.iaddrS 9 (.s 91) (.s 89)),iz (.store 9 (.s 92) (.s 88)),iq 93 (.nilck (.s 84)),ia 94 1 93,iz (.store 1 (.s 94) (.s 91))] [([92],[94]),([94],[92])]))
 (.seq
 (.reg [iq 4 (.mv (.c (.bool false)))])
 .ret)))))))))
 (.seq
 (.reg [iq 4 (.mv (.c (.bool true)))])
 .ret)))))}
theorem Jp5 :compFn Tryz.prog Tryz.f33 [[0,3],[]]=some JN:=by kernel_rfl
def JO :Eva.Fn:={ntmps:=44,res:=[.s 4],body:=
 (.seq
 (.reg [ik 4 0])
 (.seqj [0,1]
 (.seq
 (.reg [im 6 0,iq 7 (.nilck (.s 6)),ia 8 0 7,il 9 8,iq 10 (.lenL (.s 9)),iq 11 (.bin .gtr (.s 10) (.c (.int .i64 0)))])
 (.cond (.s 11)
 (.seq
 (.reg [ik 4 12])
 .ret)
 .skip))
 (.seqj [0,1]
 (.seq
 (.reg [im 12 1,iq 13 (.call 47 [.s 12]),iq 14 (.not (.s 13))])
 (.cond (.s 14)
 (.seq
 (.reg [ik 4 15])
 .ret)
 .skip))
 (.seqj [0,1]
 (.seq
 (.reg [ik 5 0])
 (.block 0
 (.loop [0,1,5]
 (.seqj [0,1,5]
 (.seq
 (.reg [im 15 5,im 16 0,iq 17 (.nilck (.s 16)),ia 18 2 17,il 19 18,iq 20 (.lenL (.s 19)),iq 21 (.bin .lss (.s 15) (.s 20))])
 (.cond (.s 21)
 .skip
 (.exit 0)))
 (.seqj [0,1,5]
 (.block 1
 (.seq
 (.reg [im 24 0,iq 25 (.nilck (.s 24)),ia 26 2 25,il 27 26,im 28 5,iq 29 (.iaddrS 2 (.s 27) (.s 28)),ia 30 0 29,il 31 30,im 32 1,iq 33 (.eq (.one .s) false (.s 31) (.s 32))])
 (.cond (.s 33)
 (.seq
 (.reg [ik 4 6])
 .ret)
 .skip)))
 (.reg [im 22 5,iq 23 (.bin .add (.s 22) (.c (.int .i64 1))),im 5 23]))))))
 (.seqj [0,1]
 (.seq
 (.reg [im 34 0,iq 35 (.nilck (.s 34)),ia 36 2 35,il 37 36,iq 38 (.lenL (.s 37)),iq 39 (.bin .geq (.s 38) (.c (.int .i64 12)))])
 (.cond (.s 39)
 (.seq
 (.reg [ik 4 3])
 .ret)
 .skip))
 (.seq
 (.reg [im 40 0,iq 41 (.build [(.int .i64 0),(.int .i64 0),(ofL []),(ofL []), .snil, .snil, .snil,(.bool false), .snil] []),im 42 1,iq 43 (.call 59 [.s 40,(.c (ofL [100,101,102,105,110,101])), .s 41,(.c (.int .i64 0)), .s 42]),im 4 43])
 .ret))))))}
theorem Jp6 :compFn Tryz.prog Tryz.f62 [[0,1],[0,1],[0,1],[0,1,5],[0,1,5],[0,1,5],[0,1]]=some JO:=by kernel_rfl
def JZ :Eva.Fn:={ntmps:=19,res:=[.s 4],body:=
 (.seq
 (.reg [iq 3 (.box (.s 1)),ik 4 0])
 (.seq
 (.reg [ia 6 2 3,il 7 6,ia 8 1 3,il 9 8,iq 10 (.build [(.int .i64 0),(.int .i64 0),(ofL []),(ofL []), .snil, .snil, .snil,(.bool false), .snil] [(0,1,(.c (.int .i64 1))),(1,1,(.s 7)),(2,1,(.s 9))]),iq 5 (.alloc [(.int .i64 0),(.int .i64 0),(ofL []),(ofL []), .snil, .snil, .snil,(.bool false), .snil]),iz (.store 9 (.s 5) (.s 10))])
 (.seqj []
 (.seq
 (.reg [im 11 0,iq 12 (.loadn 9 (.s 5)),iq 13 (.call 33 [.s 11, .s 12]),im 14 13,ig 15 14 false (.faddr 1 (.s 3)),ig 16 14 false (.load1 (.s 15)),ig 17 14 false (.call 34 [.s 16]),iq 18 (.pick (.s 14) (.c (.bool true)) (.s 17))])
 (.cond (.s 18)
 (.seq
 (.reg [ik 4 0])
 .ret)
 .skip))
 (.seq
 (.reg [ik 4 12])
 .ret))))}
theorem Jp7 :compFn Tryz.prog Tryz.f16 [[]]=some JZ:=by kernel_rfl
def KN :Eva.Fn:={ntmps:=32,res:=[.s 2],body:=
 (.seq
 (.reg [iq 2 (.mv (.c (.bool false)))])
 (.seqj []
 (.seq
 (.reg [ik 3 0])
 (.block 0
 (.loop [0,3]
 (.seqj [0,3]
 (.seq
 (.reg [im 4 3,im 5 0,iq 6 (.lenS (.s 5)),iq 7 (.bin .lss (.s 4) (.s 6))])
 (.cond (.s 7)
 .skip
 (.exit 0)))
 (.seqj [0,3]
 (.block 1
 (.seq
 (.reg [im 10 0,im 11 3,iq 12 (.idxS (.s 10) (.s 11)),iq 13 (.eq (.one .i) true (.s 12) (.c (.int .u8 32))),im 14 13,ig 15 14 true (.mv (.s 0)),ig 16 14 true (.mv (.s 3)),ig 17 14 true (.idxS (.s 15) (.s 16)),ig 18 14 true (.eq (.one .i) true (.s 17) (.c (.int .u8 9))),iq 19 (.pick (.s 14) (.s 18) (.c (.bool false))),im 20 19,ig 21 20 true (.mv (.s 0)),ig 22 20 true (.mv (.s 3)),ig 23 20 true (.idxS (.s 21) (.s 22)),ig 24 20 true (.eq (.one .i) true (.s 23) (.c (.int .u8 10))),iq 25 (.pick (.s 20) (.s 24) (.c (.bool false))),im 26 25,ig 27 26 true (.mv (.s 0)),ig 28 26 true (.mv (.s 3)),ig 29 26 true (.idxS (.s 27) (.s 28)),ig 30 26 true (.eq (.one .i) true (.s 29) (.c (.int .u8 13))),iq 31 (.pick (.s 26) (.s 30) (.c (.bool false)))])
 (.cond (.s 31)
 (.seq
 (.reg [iq 2 (.mv (.c (.bool false)))])
 .ret)
 .skip)))
 (.reg [im 8 3,iq 9 (.bin .add (.s 8) (.c (.int .i64 1))),im 3 9]))))))
 (.seq
 (.reg [iq 2 (.mv (.c (.bool true)))])
 .ret)))}
theorem Jp8 :compFn Tryz.prog Tryz.f34 [[],[0,3],[0,3],[0,3]]=some KN:=by kernel_rfl
def K1 :Eva.Fn:={ntmps:=7,res:=[.s 2],body:=
 (.seq
 (.reg [ik 2 0])
 (.seq
 (.reg [im 3 0,iq 4 (.nilck (.s 3)),ia 5 3 4,il 6 5,im 2 6])
 .ret))}
theorem Jp9 :compFn Tryz.prog Tryz.f11 []=some K1:=by kernel_rfl
def Q2 :Eva.Fn:={ntmps:=33,res:=[.s 8, .s 9, .s 10],body:=
 (.seq
 (.reg [iq 8 (.mv (.c .snil)),ik 9 0,ik 10 0])
 (.seq
 (.reg [im 13 0,im 14 1,iq 15 (.build [.pnil, .snil, .snil,(.int .i64 0)] [(0,1,(.s 13)),(1,1,(.s 14)),(3,1,(.c (.int .i64 (-1))))]),iq 16 (.box (.s 15)),im 11 16])
 (.seqj [11]
 (.seq
 (.reg [im 17 11,im 18 2,iq 19 (.build [(.int .i64 0), .snil, .snil] [(0,1,(.s 18))]),im 20 3,iq 21 (.call 17 [.s 17, .s 19, .s 20]),im 12 21])
 (.seq
 (.reg [im 22 12,iq 23 (.eq (.one .i) true (.s 22) (.c (.int .i64 0)))])
 (.cond (.s 23)
 (.seq
 (.drw [im 24 11,iq 25 (.nilck (.s 24)),ia 26 3 25,il 27 26,im 28 12,iq 8 (.mv (.c .snil)),im 9 27,im 10 28] [])
 .ret)
 .skip)))
 (.seq
 (.reg [im 29 11,iq 30 (.nilck (.s 29)),ia 31 2 30,il 32 31,im 8 32,ik 9 0,ik 10 0])
 .ret))))}
theorem Jqa :compFn Tryz.prog Tryz.f10 [[11]]=some Q2:=by kernel_rfl
def Km :Eva.Fn:={ntmps:=83,res:=[.s 6],body:=
 (.seq
 (.reg [iq 4 (.box (.s 1)),ik 6 0])
 (.seqj []
 (.seq
 (.reg [im 12 2,iq 13 (.lenL (.s 12)),ik 14 0])
 (.block 0
 (.loop [0,4,12,13,14]
 (.seq
 (.reg [iq 15 (.bin .lss (.s 14) (.s 13))])
 (.seqj [0,4,12,13,14]
 (.cond (.s 15)
 .skip
 (.exit 0))
 (.seqj [0,4,12,13,14]
 (.block 1
 (.seq
 (.reg [iq 16 (.iaddrS 9 (.s 12) (.s 14)),iq 17 (.loadn 9 (.s 16)),iq 8 (.alloc [(.int .i64 0),(.int .i64 0),(ofL []),(ofL []), .snil, .snil, .snil,(.bool false), .snil]),iz (.store 9 (.s 8) (.s 17))])
 (.seq
 (.reg [ik 9 0,ik 10 0])
 (.seqj [0,4,8,9,10,12,13,14]
 (.seq
 (.reg [ia 18 0 8,il 19 18,iq 20 (.eq (.one .i) true (.s 19) (.c (.int .i64 1))),im 21 20,ig 22 21 true (.faddr 0 (.s 8)),ig 23 21 true (.load1 (.s 22)),ig 24 21 true (.eq (.one .i) true (.s 23) (.c (.int .i64 9))),ig 25 21 true (.mv (.s 24)),ig 26 25 false (.faddr 4 (.s 8)),ig 27 25 false (.load1 (.s 26)),ig 28 25 false (.lenL (.s 27)),ig 29 25 false (.bin .gtr (.s 28) (.c (.int .i64 0))),ig 30 21 true (.pick (.s 25) (.c (.bool true)) (.s 29)),iq 31 (.pick (.s 21) (.s 30) (.c (.bool false)))])
 (.cond (.s 31)
 (.drw [im 33 0,iq 34 (.nilck (.s 33)),ia 35 0 34,il 36 35,iq 37 (.loadn 3 (.s 4)),ia 38 4 8,il 39 38,⟨(some 40),(.call 35 [.s 36, .s 37, .s 39]),none,(some [])⟩,im 32 40,ie 41 0 32,ie 42 1 32,im 9 41,im 10 42] [])
 .skip))
 (.seq
 (.reg [im 43 0,iq 44 (.nilck (.s 43)),ia 45 3 44,il 46 45,im 11 46])
 (.seq
 (.reg [im 47 0,iq 48 (.nilck (.s 47)),ia 49 3 48,iz (.store 1 (.s 49) (.c (.int .i64 (-1))))])
 (.seqj [0,4,8,9,10,11,12,13,14]
 (.seq
 (.reg [im 50 10,iq 51 (.eq (.one .i) false (.s 50) (.c (.int .i64 0)))])
 (.cond (.s 51)
 (.reg [im 52 0,iq 53 (.loadn 3 (.s 4)),iq 54 (.loadn 9 (.s 8)),im 55 9,iq 56 (.call 36 [.s 52, .s 53, .s 54, .s 55]),im 10 56])
 .skip))
 (.seqj [0,4,8,9,11,12,13,14]
 (.seq
 (.reg [im 57 10,iq 58 (.eq (.one .i) true (.s 57) (.c (.int .i64 0)))])
 (.cond (.s 58)
 (.seqj [10]
 (.seq
 (.reg [im 59 0,iq 60 (.nilck (.s 59)),ia 61 3 60,il 62 61,iq 63 (.bin .lss (.s 62) (.c (.int .i64 0)))])
 (.cond (.s 63)
 (.reg [im 64 0,ia 65 1 8,il 66 65,iq 67 (.nilck (.s 64)),ia 68 3 67,iz (.store 1 (.s 68) (.s 66))])
 .skip))
 (.seq
 (.reg [im 69 10,im 6 69])
 .ret))
 .skip))
 (.seq
 (.reg [im 70 0,im 71 11,iq 72 (.nilck (.s 70)),ia 73 3 72,iz (.store 1 (.s 73) (.s 71))])
 (.seq
 (.reg [ia 74 0 8,il 75 74,iq 76 (.eq (.one .i) false (.s 75) (.c (.int .i64 3)))])
 (.cond (.s 76)
 (.reg [iq 77 (.loadn 3 (.s 4)),ia 78 3 8,il 79 78,im 80 9,iq 81 (.call 37 [.s 77, .s 79, .s 80]),iz (.store 3 (.s 4) (.s 81))])
 .skip)))))))))))
 (.reg [iq 82 (.bin .add (.s 14) (.c (.int .i64 1))),im 14 82])))))))
 (.seq
 (.reg [ik 6 0])
 .ret)))}
theorem Jqb :compFn Tryz.prog Tryz.f17 [[],[0,4,12,13,14],[0,4,12,13,14],[0,4,12,13,14],[0,4,8,9,10,12,13,14],[0,4,8,9,10,11,12,13,14],[0,4,8,9,11,12,13,14],[10]]=some Km:=by kernel_rfl
def YY :Eva.Fn:={ntmps:=68,res:=[.s 6, .s 7],body:=
 (.seq
 (.reg [iq 4 (.box (.s 1)),ik 6 0,ik 7 0])
 (.seq
 (.reg [iq 8 (.mv (.c .snil))])
 (.seqj [8]
 (.seq
 (.reg [im 13 2,iq 14 (.lenL (.s 13)),ik 15 0])
 (.block 0
 (.loop [0,4,8,13,14,15]
 (.seq
 (.reg [iq 16 (.bin .lss (.s 15) (.s 14))])
 (.seqj [0,4,8,13,14,15]
 (.cond (.s 16)
 .skip
 (.exit 0))
 (.seqj [0,4,8,13,14,15]
 (.block 1
 (.seq
 (.reg [iq 17 (.iaddrS 1 (.s 13) (.s 15)),iq 18 (.loadn 1 (.s 17)),iq 10 (.alloc [.snil]),iz (.store 1 (.s 10) (.s 18))])
 (.seq
 (.reg [ik 11 0])
 (.seq
 (.reg [ik 12 12])
 (.seqj [0,4,11,12,13,14,15]
 (.block 2
 (.seq
 (.reg [ia 37 0 10,il 38 37,iq 39 (.lenL (.s 38)),iq 40 (.eq (.one .i) false (.s 39) (.c (.int .i64 0))),im 36 40])
 (.cond (.s 36)
 .skip
 (.seq
 (.reg [ia 42 0 10,il 43 42,iq 44 (.iaddrS 7 (.s 43) (.c (.int .i64 0))),ia 45 0 44,il 46 45,iq 47 (.eq (.one .i) false (.s 46) (.c (.int .i64 6))),im 41 47])
 (.cond (.s 41)
 (.reg [iq 49 (.loadn 3 (.s 4)),im 50 0,iq 51 (.loadn 1 (.s 10)),im 52 8,iq 53 (.call 63 [.s 49, .s 50, .s 51, .s 52]),im 48 53,ie 54 0 48,ie 55 1 48,im 11 54,im 12 55])
 (.seq
 (.drw [iq 20 (.loadn 3 (.s 4)),im 21 0,ia 22 0 10,il 23 22,iq 24 (.iaddrS 7 (.s 23) (.c (.int .i64 0))),iq 25 (.loadn 7 (.s 24)),⟨(some 26),(.call 64 [.s 20, .s 21, .s 25]),none,(some [])⟩,im 19 26,ie 27 0 19,ie 28 1 19,im 11 27,im 12 28] [])
 (.seq
 (.reg [im 29 12,iq 30 (.eq (.one .i) false (.s 29) (.c (.int .i64 0))),im 31 30,ig 32 31 true (.mv (.s 8)),ig 33 31 true (.lenL (.s 32)),ig 34 31 true (.bin .gtr (.s 33) (.c (.int .i64 0))),iq 35 (.pick (.s 31) (.s 34) (.c (.bool false)))])
 (.cond (.s 35)
 (.reg [ik 12 18])
 .skip))))))))
 (.seqj [0,4,11,13,14,15]
 (.seq
 (.reg [im 56 12,iq 57 (.eq (.one .i) true (.s 56) (.c (.int .i64 0)))])
 (.cond (.s 57)
 (.seq
 (.reg [im 58 12,ik 6 0,im 7 58])
 .ret)
 .skip))
 (.reg [im 59 11,iq 60 (.bsl 1 1 [(.int .i64 0)] [(0,1,(.s 59))]),im 8 60])))))))
 (.reg [iq 61 (.bin .add (.s 15) (.c (.int .i64 1))),im 15 61])))))))
 (.seqj [8]
 (.seq
 (.reg [im 62 8,iq 63 (.lenL (.s 62)),iq 64 (.eq (.one .i) false (.s 63) (.c (.int .i64 0)))])
 (.cond (.s 64)
 (.seq
 (.reg [ik 6 0,ik 7 12])
 .ret)
 .skip))
 (.seq
 (.reg [im 65 8,iq 66 (.iaddrS 1 (.s 65) (.c (.int .i64 0))),il 67 66,im 6 67,ik 7 0])
 .ret)))))}
theorem Jqc :compFn Tryz.prog Tryz.f35 [[8],[0,4,8,13,14,15],[0,4,8,13,14,15],[0,4,8,13,14,15],[0,4,11,12,13,14,15],[0,4,11,13,14,15],[8]]=some YY:=by kernel_rfl
def QC :Eva.Fn:={ntmps:=71,res:=[.s 8, .s 9],body:=
 (.seq
 (.reg [iq 4 (.box (.s 0)),iq 6 (.box (.s 2)),ik 8 0,ik 9 0])
 (.seq
 (.reg [ia 16 0 6,il 17 16,iq 18 (.lenL (.s 17)),iq 19 (.bin .sub (.s 18) (.c (.int .i64 1))),ia 20 0 6,il 21 20,iq 22 (.lenL (.s 21)),iq 23 (.mksl 1 [(.int .i64 0)] (.s 19) (.s 22)),im 10 23])
 (.seqj [1,3,6,10]
 (.seq
 (.reg [ia 24 0 6,il 25 24,iq 26 (.cutL 7 (.s 25) (some (.c (.int .i64 1))) none none),iq 27 (.lenL (.s 26)),ik 28 0])
 (.block 0
 (.loop [1,3,4,6,10,26,27,28]
 (.seq
 (.reg [iq 29 (.bin .lss (.s 28) (.s 27))])
 (.seqj [1,3,4,6,10,26,27,28]
 (.cond (.s 29)
 .skip
 (.exit 0))
 (.seqj [1,3,4,6,10,26,27,28]
 (.block 1
 (.seq
 (.reg [im 30 28,iq 31 (.iaddrS 7 (.s 26) (.s 28)),iq 32 (.loadn 7 (.s 31)),iq 12 (.alloc [(.int .i64 0),(ofL []), .snil,(ofL []),(.int .i64 0),(.bool false), .snil]),im 11 30,iz (.store 7 (.s 12) (.s 32))])
 (.seq
 (.reg [iq 34 (.loadn 3 (.s 4)),im 35 1,iq 36 (.loadn 7 (.s 12)),iq 37 (.call 64 [.s 34, .s 35, .s 36]),im 33 37,ie 38 0 33,ie 39 1 33,im 13 38,im 14 39])
 (.seqj [1,3,4,6,10,11,13,26,27,28]
 (.seq
 (.reg [im 40 14,iq 41 (.eq (.one .i) true (.s 40) (.c (.int .i64 0)))])
 (.cond (.s 41)
 (.seq
 (.reg [im 42 14,ik 8 0,im 9 42])
 .ret)
 .skip))
 (.reg [im 43 10,im 44 11,im 45 13,iq 46 (.iaddrS 1 (.s 43) (.s 44)),iz (.store 1 (.s 46) (.s 45))])))))
 (.reg [iq 47 (.bin .add (.s 28) (.c (.int .i64 1))),im 28 47])))))))
 (.seq
 (.reg [im 48 10,iq 49 (.lenL (.s 48)),im 50 3,iq 51 (.lenL (.s 50)),iq 52 (.bin .add (.s 49) (.s 51)),iq 53 (.mksl 1 [(.int .i64 0)] (.s 52) (.s 52)),im 15 53])
 (.seq
 (.reg [im 54 15,im 55 15,im 56 10,iq 57 (.copy 1 (.s 55) (.s 56)),iq 58 (.cutL 1 (.s 54) (some (.s 57)) none none),im 59 3,iq 60 (.copy 1 (.s 58) (.s 59))])
 (.seq
 (.reg [im 61 1,ia 62 0 6,il 63 62,iq 64 (.iaddrS 7 (.s 63) (.c (.int .i64 0))),ia 65 3 64,il 66 65,im 67 15,iq 68 (.call 90 [.s 61, .s 66, .s 67]),ie 69 0 68,ie 70 1 68,im 8 69,im 9 70])
 .ret))))))}
theorem Jqd :compFn Tryz.prog Tryz.f63 [[1,3,6,10],[1,3,4,6,10,26,27,28],[1,3,4,6,10,26,27,28],[1,3,4,6,10,26,27,28],[1,3,4,6,10,11,13,26,27,28]]=some QC:=by kernel_rfl
def KO :Eva.Fn:={ntmps:=51,res:=[.s 6, .s 7],body:=
 (.seq
 (.reg [iq 3 (.box (.s 0)),iq 5 (.box (.s 2)),ik 6 0,ik 7 0])
 (.seqj [1,3,5]
 (.seq
 (.reg [ia 8 0 5,il 9 8])
 (.block 0
 (.seq
 (.reg [iq 11 (.eq (.one .i) false (.s 9) (.c (.int .i64 2))),im 10 11])
 (.cond (.s 10)
 (.seq
 (.reg [im 12 1,iq 13 (.call 91 [.s 12,(.c (.int .i64 3))]),ie 14 0 13,ie 15 1 13,im 6 14,im 7 15])
 .ret)
 (.seq
 (.reg [iq 17 (.eq (.one .i) false (.s 9) (.c (.int .i64 3))),im 16 17])
 (.cond (.s 16)
 (.seq
 (.reg [im 18 1,iq 19 (.call 91 [.s 18,(.c (.int .i64 2))]),ie 20 0 19,ie 21 1 19,im 6 20,im 7 21])
 .ret)
 (.seq
 (.reg [iq 23 (.eq (.one .i) false (.s 9) (.c (.int .i64 4))),im 22 23])
 (.cond (.s 22)
 (.seq
 (.reg [im 24 1,iq 25 (.call 91 [.s 24,(.c (.int .i64 1))]),ie 26 0 25,ie 27 1 25,im 6 26,im 7 27])
 .ret)
 (.seq
 (.reg [iq 29 (.eq (.one .i) false (.s 9) (.c (.int .i64 5))),im 28 29])
 (.cond (.s 28)
 (.seq
 (.reg [im 30 1,iq 31 (.loadn 3 (.s 3)),ia 32 6 5,il 33 32,iq 34 (.call 35 [.s 30, .s 31, .s 33]),ie 35 0 34,ie 36 1 34,im 6 35,im 7 36])
 .ret)
 (.seq
 (.reg [iq 38 (.eq (.one .i) false (.s 9) (.c (.int .i64 6))),im 37 38])
 (.cond (.s 37)
 (.seq
 (.reg [im 39 1,ia 40 3 5,il 41 40,iq 42 (.call 90 [.s 39, .s 41,(.c .snil)]),ie 43 0 42,ie 44 1 42,im 6 43,im 7 44])
 .ret)
 .skip))))))))))))
 (.seq
 (.reg [iq 45 (.loadn 3 (.s 3)),im 46 1,iq 47 (.loadn 7 (.s 5)),iq 48 (.call 92 [.s 45, .s 46, .s 47]),ie 49 0 48,ie 50 1 48,im 6 49,im 7 50])
 .ret)))}
theorem Jqe :compFn Tryz.prog Tryz.f64 [[1,3,5]]=some KO:=by kernel_rfl
def K3 :Eva.Fn:={ntmps:=12,res:=[.s 4, .s 5],body:=
 (.seq
 (.reg [ik 4 0,ik 5 0])
 (.seq
 (.reg [im 6 0,im 7 1,iq 8 (.build [(.int .i64 0),(ofL []), .snil, .snil] [(0,1,(.s 7))]),iq 9 (.call 80 [.s 6, .s 8]),ie 10 0 9,ie 11 1 9,im 4 10,im 5 11])
 .ret))}
theorem Jqf :compFn Tryz.prog Tryz.f91 []=some K3:=by kernel_rfl
def YE :Eva.Fn:={ntmps:=112,res:=[.s 6, .s 7],body:=
 (.seq
 (.reg [ik 6 0,ik 7 0])
 (.seq
 (.reg [im 26 0,im 27 1,iq 28 (.call 118 [.s 26, .s 27]),im 25 28,ie 29 0 25,ie 30 1 25,ie 31 2 25,im 8 29,im 9 30,im 10 31])
 (.seq
 (.reg [im 32 8,iq 33 (.lenL (.s 32)),im 11 33])
 (.seqj [0,1,2,8,9,11]
 (.block 0
 (.seq
 (.reg [im 35 1,iq 36 (.call 76 [.s 35]),im 34 36])
 (.cond (.s 34)
 (.reg [im 37 1,iq 38 (.call 119 [.s 37]),im 11 38])
 (.seq
 (.reg [im 40 10,iq 41 (.not (.s 40)),im 39 41])
 (.cond (.s 39)
 (.seq
 (.reg [ik 6 0,ik 7 15])
 .ret)
 .skip)))))
 (.seqj [0,1,2,8,9]
 (.seq
 (.reg [im 42 2,iq 43 (.lenL (.s 42)),im 44 11,iq 45 (.eq (.one .i) true (.s 43) (.s 44))])
 (.cond (.s 45)
 (.seq
 (.reg [ik 6 0,ik 7 18])
 .ret)
 .skip))
 (.seqj [0,1,2]
 (.seq
 (.reg [im 46 1,iq 47 (.call 76 [.s 46]),iq 48 (.not (.s 47))])
 (.cond (.s 48)
 (.seqj [9]
 (.seq
 (.reg [im 49 8,iq 50 (.lenL (.s 49)),ik 51 0])
 (.block 1
 (.loop [0,2,9,49,50,51]
 (.seq
 (.reg [iq 52 (.bin .lss (.s 51) (.s 50))])
 (.seqj [0,2,9,49,50,51]
 (.cond (.s 52)
 .skip
 (.exit 1))
 (.seqj [0,2,9,49,50,51]
 (.block 2
 (.seq
 (.reg [im 53 51,iq 54 (.iaddrS 1 (.s 49) (.s 51)),il 55 54,im 12 53,im 13 55])
 (.seq
 (.reg [im 57 0,im 58 2,im 59 12,iq 60 (.iaddrS 1 (.s 58) (.s 59)),il 61 60,im 62 13,iq 63 (.call 120 [.s 57, .s 61, .s 62]),im 56 63,ie 64 0 56,ie 65 1 56,im 14 64,im 15 65])
 (.seq
 (.reg [im 66 14,iq 67 (.not (.s 66))])
 (.cond (.s 67)
 (.seq
 (.reg [ik 6 0,ik 7 17])
 .ret)
 .skip)))))
 (.reg [iq 68 (.bin .add (.s 51) (.c (.int .i64 1))),im 51 68])))))))
 (.seq
 (.reg [im 69 9,im 6 69,ik 7 0])
 .ret))
 .skip))
 (.seq
 (.reg [im 70 0,im 71 2,iq 72 (.build [.pnil, .snil, .snil] [(0,1,(.s 70)),(2,1,(.s 71))]),iq 16 (.alloc [.pnil, .snil, .snil]),iz (.store 3 (.s 16) (.s 72))])
 (.seqj [1,16]
 (.seq
 (.reg [im 73 2,iq 74 (.lenL (.s 73)),ik 75 0])
 (.block 3
 (.loop [0,1,16,73,74,75]
 (.seq
 (.reg [iq 76 (.bin .lss (.s 75) (.s 74))])
 (.seqj [0,1,16,73,74,75]
 (.cond (.s 76)
 .skip
 (.exit 3))
 (.seqj [0,1,16,73,74,75]
 (.block 4
 (.seq
 (.reg [iq 77 (.iaddrS 1 (.s 73) (.s 75)),il 78 77,im 18 78])
 (.seq
 (.reg [im 80 0,im 81 18,iq 82 (.call 93 [.s 80, .s 81]),im 79 82,ie 83 0 79,ie 84 1 79,im 19 83,im 20 84])
 (.seq
 (.reg [im 86 0,im 87 19,iq 88 (.call 94 [.s 86, .s 87]),im 85 88,ie 89 0 85,ie 90 1 85,iq 21 (.alloc [(.int .i64 0),(ofL []), .snil, .snil]),iz (.store 4 (.s 21) (.s 89)),im 22 90])
 (.seqj [0,1,16,21,73,74,75]
 (.seq
 (.reg [im 92 0,im 93 18,iq 94 (.call 93 [.s 92, .s 93]),im 91 94,ie 95 0 91,ie 96 1 91,im 23 95,im 24 96])
 (.seq
 (.reg [im 97 24,iq 98 (.not (.s 97))])
 (.cond (.s 98)
 (.reg [iq 99 (.build [(.int .i64 0),(ofL []), .snil, .snil] []),iz (.store 4 (.s 21) (.s 99))])
 .skip)))
 (.reg [ia 100 1 16,il 101 100,iq 102 (.loadn 4 (.s 21)),iq 103 (.bsl 4 1 [(.int .i64 0),(ofL []), .snil, .snil] [(0,4,(.s 102))]),iq 104 (.app 4 (.s 101) (.s 103)),ia 105 1 16,iz (.store 1 (.s 105) (.s 104))]))))))
 (.reg [iq 106 (.bin .add (.s 75) (.c (.int .i64 1))),im 75 106])))))))
 (.seq
 (.reg [iq 107 (.loadn 3 (.s 16)),im 108 1,iq 109 (.call 121 [.s 107, .s 108]),ie 110 0 109,ie 111 1 109,im 6 110,im 7 111])
 .ret)))))))))}
theorem Jqg :compFn Tryz.prog Tryz.f90 [[0,1,2,8,9,11],[0,1,2,8,9],[0,1,2],[9],[0,2,9,49,50,51],[0,2,9,49,50,51],[0,2,9,49,50,51],[1,16],[0,1,16,73,74,75],[0,1,16,73,74,75],[0,1,16,73,74,75],[0,1,16,21,73,74,75]]=some YE:=by kernel_rfl
def Qm :Eva.Fn:={ntmps:=32,res:=[.s 4, .s 5, .s 6],body:=
 (.seq
 (.reg [iq 4 (.mv (.c .snil)),ik 5 0,iq 6 (.mv (.c (.bool false)))])
 (.seq
 (.reg [im 10 0,iq 11 (.nilck (.s 10)),ia 12 4 11,il 13 12,im 14 1,iq 15 (.lookup (.one .s) .snil true (.s 13) (.s 14)),im 9 15,ie 16 0 9,ie 17 1 9,im 7 16,im 8 17])
 (.seqj [7]
 (.seq
 (.reg [im 18 8,iq 19 (.not (.s 18))])
 (.cond (.s 19)
 (.seq
 (.reg [iq 4 (.mv (.c .snil)),ik 5 0,iq 6 (.mv (.c (.bool false)))])
 .ret)
 .skip))
 (.seq
 (.drw [im 20 7,im 21 7,iq 22 (.lenL (.s 21)),iq 23 (.bin .sub (.s 22) (.c (.int .i64 1))),iq 24 (.cutL 1 (.s 20) none (some (.s 23)) none),iq 25 (.call 113 [.s 24]),im 26 7,im 27 7,iq 28 (.lenL (.s 27)),iq 29 (.bin .sub (.s 28) (.c (.int .i64 1))),iq 30 (.iaddrS 1 (.s 26) (.s 29)),il 31 30,im 4 25,im 5 31,iq 6 (.mv (.c (.bool true)))] [])
 .ret))))}
theorem Jnn :compFn Tryz.prog Tryz.f118 [[7]]=some Qm:=by kernel_rfl
def Ye :Eva.Fn:={ntmps:=16,res:=[.s 2],body:=
 (.seq
 (.reg [ik 2 0])
 (.seqj []
 (.seq
 (.reg [im 3 0])
 (.block 0
 (.seqj []
 (.block 2
 (.block 1
 (.seqj []
 (.seqj [3]
 (.seqj [3,4]
 (.seq
 (.reg [iq 5 (.eq (.one .s) false (.s 3) (.c (ofL [108,101,110]))),im 4 5])
 (.cond (.s 4)
 .skip
 (.seq
 (.reg [iq 6 (.eq (.one .s) false (.s 3) (.c (ofL [110,111,116]))),im 4 6])
 (.cond (.s 4)
 .skip
 (.seq
 (.reg [iq 7 (.eq (.one .s) false (.s 3) (.c (ofL [116,101,120,116]))),im 4 7])
 (.cond (.s 4)
 .skip
 (.seq
 (.reg [iq 8 (.eq (.one .s) false (.s 3) (.c (ofL [104,97,115]))),im 4 8])
 (.cond (.s 4)
 .skip
 (.seq
 (.reg [iq 9 (.eq (.one .s) false (.s 3) (.c (ofL [105,56]))),im 4 9])
 (.cond (.s 4)
 .skip
 (.seq
 (.reg [iq 10 (.eq (.one .s) false (.s 3) (.c (ofL [105,49,54]))),im 4 10])
 (.cond (.s 4)
 .skip
 (.seq
 (.reg [iq 11 (.eq (.one .s) false (.s 3) (.c (ofL [105,51,50]))),im 4 11])
 (.cond (.s 4)
 .skip
 (.reg [iq 12 (.eq (.one .s) false (.s 3) (.c (ofL [117,56]))),im 4 12])))))))))))))))
 (.cond (.s 4)
 (.exit 1)
 .skip))
 (.seqj [13]
 (.seq
 (.reg [iq 14 (.eq (.one .s) false (.s 3) (.c (ofL [117,49,54]))),im 13 14])
 (.cond (.s 13)
 .skip
 (.reg [iq 15 (.eq (.one .s) false (.s 3) (.c (ofL [117,51,50]))),im 13 15])))
 (.cond (.s 13)
 (.exit 2)
 .skip)))
 (.exit 0))))
 (.seq
 (.seq
 (.reg [ik 2 1])
 .ret)
 (.exit 0)))))
 (.seq
 (.reg [ik 2 2])
 .ret)))}
theorem Jno :compFn Tryz.prog Tryz.f119 [[],[],[],[3],[3,4],[13]]=some Ye:=by kernel_rfl
def kb :Eva.Fn:={ntmps:=42,res:=[.s 6, .s 7],body:=
 (.seq
 (.reg [iq 6 (.mv (.c (.bool false))),ik 7 0])
 (.seqj [0,1,2]
 (.seq
 (.reg [im 10 1,iq 11 (.bin .lss (.s 10) (.c (.int .i64 0))),im 12 11,ig 13 12 false (.mv (.s 1)),ig 14 12 false (.mv (.s 0)),ig 15 12 false (.call 131 [.s 14]),ig 16 12 false (.bin .geq (.s 13) (.s 15)),iq 17 (.pick (.s 12) (.c (.bool true)) (.s 16)),im 18 17,ig 19 18 false (.mv (.s 2)),ig 20 18 false (.bin .lss (.s 19) (.c (.int .i64 0))),iq 21 (.pick (.s 18) (.c (.bool true)) (.s 20)),im 22 21,ig 23 22 false (.mv (.s 2)),ig 24 22 false (.mv (.s 0)),ig 25 22 false (.call 131 [.s 24]),ig 26 22 false (.bin .geq (.s 23) (.s 25)),iq 27 (.pick (.s 22) (.c (.bool true)) (.s 26))])
 (.cond (.s 27)
 (.seq
 (.reg [iq 6 (.mv (.c (.bool false))),ik 7 0])
 .ret)
 .skip))
 (.seq
 (.reg [im 28 0,⟨(some 29), .mkmap,none,none⟩,iq 30 (.build [.pnil, .mnil] [(0,1,(.s 28)),(1,1,(.s 29))]),iq 31 (.box (.s 30)),im 8 31])
 (.seq
 (.reg [im 32 8,im 33 1,im 34 2,iq 35 (.call 132 [.s 32, .s 33, .s 34]),im 9 35])
 (.seq
 (.reg [im 36 9,im 37 8,iq 38 (.nilck (.s 37)),ia 39 1 38,il 40 39,iq 41 (.lenM (.s 40)),im 6 36,im 7 41])
 .ret)))))}
theorem Jnp :compFn Tryz.prog Tryz.f120 [[0,1,2]]=some kb:=by kernel_rfl
def Qn :Eva.Fn:={ntmps:=8,res:=[.s 2],body:=
 (.seq
 (.reg [ik 2 0])
 (.seq
 (.reg [im 3 0,iq 4 (.nilck (.s 3)),ia 5 0 4,il 6 5,iq 7 (.lenL (.s 6)),im 2 7])
 .ret))}
theorem Jnq :compFn Tryz.prog Tryz.f131 []=some Qn:=by kernel_rfl
def Qo :Eva.Fn:={ntmps:=36,res:=[.s 6],body:=
 (.seq
 (.reg [iq 6 (.mv (.c (.bool false)))])
 (.seq
 (.reg [im 8 1,im 9 2,iq 10 (.build [(.int .i64 0),(.int .i64 0)] [(0,1,(.s 8)),(1,1,(.s 9))]),iq 7 (.alloc [(.int .i64 0),(.int .i64 0)]),iz (.store 2 (.s 7) (.s 10))])
 (.seqj [0,1,2,7]
 (.seq
 (.drw [im 11 1,im 12 2,iq 13 (.eq (.one .i) false (.s 11) (.s 12)),im 14 13,ig 15 14 false (.mv (.s 0)),ig 16 14 false (.nilck (.s 15)),ig 17 14 false (.faddr 1 (.s 16)),ig 18 14 false (.load1 (.s 17)),ig 19 14 false (.loadn 2 (.s 7)),ig 20 14 false (.lookup (.many [.i, .i]) (.int .i64 0) false (.s 18) (.s 19)),ig 21 14 false (.bin .gtr (.s 20) (.c (.int .i64 0))),iq 22 (.pick (.s 14) (.c (.bool true)) (.s 21))] [])
 (.cond (.s 22)
 (.seq
 (.reg [iq 6 (.mv (.c (.bool true)))])
 .ret)
 .skip))
 (.seq
 (.drw [im 23 0,iq 24 (.nilck (.s 23)),ia 25 1 24,il 26 25,iq 27 (.loadn 2 (.s 7)),iq 28 (.lookup (.many [.i, .i]) (.int .i64 0) false (.s 26) (.s 27)),iq 29 (.bin .add (.s 28) (.c (.int .i64 1))),iq 30 (.ment (.many [.i, .i]) (.int .i64 0) (.s 26) (.s 27)),ie 31 1 30,iz (.ests (.s 26) (.s 31) (.s 29))] [])
 (.seq
 (.reg [im 32 0,im 33 1,im 34 2,iq 35 (.call 142 [.s 32, .s 33, .s 34]),im 6 35])
 .ret)))))}
theorem Jnr :compFn Tryz.prog Tryz.f132 [[0,1,2,7]]=some Qo:=by kernel_rfl
def Qp :Eva.Fn:={ntmps:=103,res:=[.s 6],body:=
 (.seq
 (.reg [iq 6 (.mv (.c (.bool false)))])
 (.seq
 (.reg [im 14 0,iq 15 (.nilck (.s 14)),ia 16 0 15,il 17 16,im 18 1,iq 19 (.call 93 [.s 17, .s 18]),im 13 19,ie 20 0 13,ie 21 1 13,im 1 20,im 7 21])
 (.seq
 (.reg [im 23 0,iq 24 (.nilck (.s 23)),ia 25 0 24,il 26 25,im 27 2,iq 28 (.call 93 [.s 26, .s 27]),im 22 28,ie 29 0 22,ie 30 1 22,im 2 29,im 8 30])
 (.seqj [0,1,2]
 (.seq
 (.reg [im 31 7,iq 32 (.not (.s 31)),im 33 32,ig 34 33 false (.mv (.s 8)),ig 35 33 false (.not (.s 34)),iq 36 (.pick (.s 33) (.c (.bool true)) (.s 35))])
 (.cond (.s 36)
 (.seq
 (.reg [iq 6 (.mv (.c (.bool false)))])
 .ret)
 .skip))
 (.seq
 (.reg [im 38 0,iq 39 (.nilck (.s 38)),ia 40 0 39,il 41 40,im 42 1,iq 43 (.call 94 [.s 41, .s 42]),im 37 43,ie 44 0 37,ie 45 1 37,iq 9 (.alloc [(.int .i64 0),(ofL []), .snil, .snil]),iz (.store 4 (.s 9) (.s 44)),im 10 45])
 (.seq
 (.reg [im 47 0,iq 48 (.nilck (.s 47)),ia 49 0 48,il 50 49,im 51 2,iq 52 (.call 94 [.s 50, .s 51]),im 46 52,ie 53 0 46,ie 54 1 46,iq 11 (.alloc [(.int .i64 0),(ofL []), .snil, .snil]),iz (.store 4 (.s 11) (.s 53)),im 12 54])
 (.seqj [0,9,11]
 (.block 0
 (.seq
 (.reg [ia 56 0 11,il 57 56,iq 58 (.eq (.one .i) false (.s 57) (.c (.int .i64 6))),im 59 58,ig 60 59 true (.faddr 0 (.s 9)),ig 61 59 true (.load1 (.s 60)),ig 62 59 true (.eq (.one .i) true (.s 61) (.c (.int .i64 6))),iq 63 (.pick (.s 59) (.s 62) (.c (.bool false))),im 64 63,ig 65 64 true (.faddr 3 (.s 11)),ig 66 64 true (.load1 (.s 65)),ig 67 64 true (.lenL (.s 66)),ig 68 64 true (.eq (.one .i) false (.s 67) (.c (.int .i64 1))),iq 69 (.pick (.s 64) (.s 68) (.c (.bool false))),im 55 69])
 (.cond (.s 55)
 (.seq
 (.reg [im 70 0,im 71 1,ia 72 3 11,il 73 72,iq 74 (.iaddrS 1 (.s 73) (.c (.int .i64 0))),il 75 74,iq 76 (.call 132 [.s 70, .s 71, .s 75]),im 6 76])
 .ret)
 (.seq
 (.reg [ia 78 0 9,il 79 78,ia 80 0 11,il 81 80,iq 82 (.eq (.one .i) true (.s 79) (.s 81)),im 77 82])
 (.cond (.s 77)
 (.seq
 (.reg [iq 6 (.mv (.c (.bool false)))])
 .ret)
 (.seq
 (.reg [ia 84 0 11,il 85 84,iq 86 (.eq (.one .i) false (.s 85) (.c (.int .i64 7))),im 83 86])
 (.cond (.s 83)
 (.seq
 (.reg [im 87 0,iq 88 (.loadn 4 (.s 9)),iq 89 (.loadn 4 (.s 11)),iq 90 (.call 146 [.s 87, .s 88, .s 89,(.c (.bool true))]),im 6 90])
 .ret)
 (.seq
 (.reg [ia 92 0 11,il 93 92,iq 94 (.eq (.one .i) false (.s 93) (.c (.int .i64 8))),im 91 94])
 (.cond (.s 91)
 (.seq
 (.reg [im 95 0,iq 96 (.loadn 4 (.s 11)),iq 97 (.loadn 4 (.s 9)),iq 98 (.call 146 [.s 95, .s 96, .s 97,(.c (.bool false))]),im 6 98])
 .ret)
 .skip)))))))))
 (.seq
 (.reg [im 99 0,iq 100 (.loadn 4 (.s 9)),iq 101 (.loadn 4 (.s 11)),iq 102 (.call 147 [.s 99, .s 100, .s 101]),im 6 102])
 .ret))))))))}
theorem Jns :compFn Tryz.prog Tryz.f142 [[0,1,2],[0,9,11]]=some Qp:=by kernel_rfl
def K5 :Eva.Fn:={ntmps:=57,res:=[.s 4, .s 5],body:=
 (.seq
 (.reg [ik 4 0,iq 5 (.mv (.c (.bool false)))])
 (.seqj []
 (.seq
 (.reg [im 8 0,iq 9 (.nilck (.s 8)),ia 10 0 9,il 11 10,iq 12 (.lenL (.s 11)),iq 13 (.bin .add (.s 12) (.c (.int .i64 1))),ik 14 0])
 (.block 0
 (.loop [0,1,13,14]
 (.seq
 (.reg [iq 15 (.bin .lss (.s 14) (.s 13))])
 (.seqj [0,1,13,14]
 (.cond (.s 15)
 .skip
 (.exit 0))
 (.seqj [0,1,13,14]
 (.block 1
 (.seqj [0,1,13,14]
 (.seq
 (.reg [im 16 1,iq 17 (.bin .lss (.s 16) (.c (.int .i64 0))),im 18 17,ig 19 18 false (.mv (.s 1)),ig 20 18 false (.mv (.s 0)),ig 21 18 false (.nilck (.s 20)),ig 22 18 false (.faddr 0 (.s 21)),ig 23 18 false (.load1 (.s 22)),ig 24 18 false (.lenL (.s 23)),ig 25 18 false (.bin .geq (.s 19) (.s 24)),iq 26 (.pick (.s 18) (.c (.bool true)) (.s 25))])
 (.cond (.s 26)
 (.seq
 (.reg [ik 4 0,iq 5 (.mv (.c (.bool false)))])
 .ret)
 .skip))
 (.seqj [0,1,13,14]
 (.seq
 (.reg [im 27 0,iq 28 (.nilck (.s 27)),ia 29 0 28,il 30 29,im 31 1,iq 32 (.iaddrS 4 (.s 30) (.s 31)),ia 33 0 32,il 34 33,iq 35 (.eq (.one .i) true (.s 34) (.c (.int .i64 9)))])
 (.cond (.s 35)
 (.seq
 (.reg [im 36 1,im 4 36,iq 5 (.mv (.c (.bool true)))])
 .ret)
 .skip))
 (.seq
 (.drw [im 38 0,iq 39 (.nilck (.s 38)),ia 40 2 39,il 41 40,im 42 0,iq 43 (.nilck (.s 42)),ia 44 0 43,il 45 44,im 46 1,iq 47 (.iaddrS 4 (.s 45) (.s 46)),ia 48 1 47,il 49 48,iq 50 (.lookup (.one .s) (.int .i64 0) true (.s 41) (.s 49)),im 37 50,ie 51 0 37,ie 52 1 37,im 6 51,im 7 52] [])
 (.seqj [0,6,13,14]
 (.seq
 (.reg [im 53 7,iq 54 (.not (.s 53))])
 (.cond (.s 54)
 (.reg [iq 6 (.mv (.c (.int .i64 (-1))))])
 .skip))
 (.reg [im 55 6,im 1 55]))))))
 (.reg [iq 56 (.bin .add (.s 14) (.c (.int .i64 1))),im 14 56])))))))
 (.seq
 (.reg [ik 4 0,iq 5 (.mv (.c (.bool false)))])
 .ret)))}
theorem Jqh :compFn Tryz.prog Tryz.f93 [[],[0,1,13,14],[0,1,13,14],[0,1,13,14],[0,1,13,14],[0,1,13,14],[0,6,13,14]]=some K5:=by kernel_rfl
def K6 :Eva.Fn:={ntmps:=35,res:=[(.cn 4 4), .s 5],body:=
 (.seq
 (.reg [iq 4 (.alloc [(.int .i64 0),(ofL []), .snil, .snil]),iq 5 (.mv (.c (.bool false)))])
 (.seqj [0,1,4]
 (.seq
 (.reg [im 7 1,iq 8 (.bin .lss (.s 7) (.c (.int .i64 0))),im 9 8,ig 10 9 false (.mv (.s 1)),ig 11 9 false (.mv (.s 0)),ig 12 9 false (.nilck (.s 11)),ig 13 9 false (.faddr 0 (.s 12)),ig 14 9 false (.load1 (.s 13)),ig 15 9 false (.lenL (.s 14)),ig 16 9 false (.bin .geq (.s 10) (.s 15)),iq 17 (.pick (.s 9) (.c (.bool true)) (.s 16))])
 (.cond (.s 17)
 (.seq
 (.reg [iq 18 (.build [(.int .i64 0),(ofL []), .snil, .snil] []),iz (.store 4 (.s 4) (.s 18)),iq 5 (.mv (.c (.bool false)))])
 .ret)
 .skip))
 (.seq
 (.reg [im 19 0,iq 20 (.nilck (.s 19)),ia 21 0 20,il 22 21,im 23 1,iq 24 (.iaddrS 4 (.s 22) (.s 23)),iq 25 (.loadn 4 (.s 24)),iq 6 (.alloc [(.int .i64 0),(ofL []), .snil, .snil]),iz (.store 4 (.s 6) (.s 25))])
 (.seq
 (.drw [ia 26 2 6,il 27 26,iq 28 (.call 112 [.s 27]),ia 29 3 6,il 30 29,⟨(some 31),(.call 113 [.s 30]),none,(some [])⟩,ia 32 2 6,iz (.store 1 (.s 32) (.s 28)),ia 33 3 6,iz (.store 1 (.s 33) (.s 31))] [])
 (.seq
 (.reg [iq 34 (.loadn 4 (.s 6)),iz (.store 4 (.s 4) (.s 34)),iq 5 (.mv (.c (.bool true)))])
 .ret)))))}
theorem Jqi :compFn Tryz.prog Tryz.f94 [[0,1,4]]=some K6:=by kernel_rfl
def QR :Eva.Fn:={ntmps:=62,res:=[.s 8],body:=
 (.seq
 (.reg [iq 5 (.box (.s 1)),iq 6 (.box (.s 2)),iq 8 (.mv (.c (.bool false)))])
 (.seqj []
 (.seq
 (.reg [ia 14 2 6,il 15 14,iq 16 (.lenL (.s 15)),ik 17 0])
 (.block 0
 (.loop [0,3,5,6,15,16,17]
 (.seq
 (.reg [iq 18 (.bin .lss (.s 17) (.s 16))])
 (.seqj [0,3,5,6,15,16,17]
 (.cond (.s 18)
 .skip
 (.exit 0))
 (.seqj [0,3,5,6,15,16,17]
 (.block 1
 (.seq
 (.reg [im 19 17,iq 20 (.iaddrS 1 (.s 15) (.s 17)),il 21 20,im 9 19,im 10 21])
 (.seq
 (.reg [ia 22 2 5,il 23 22,im 24 10,iq 25 (.call 103 [.s 23, .s 24]),im 11 25])
 (.seqj [0,3,5,6,9,11,15,16,17]
 (.seq
 (.reg [im 26 11,iq 27 (.bin .lss (.s 26) (.c (.int .i64 0))),im 28 27,ig 29 28 false (.mv (.s 11)),ig 30 28 false (.faddr 3 (.s 5)),ig 31 28 false (.load1 (.s 30)),ig 32 28 false (.lenL (.s 31)),ig 33 28 false (.bin .geq (.s 29) (.s 32)),iq 34 (.pick (.s 28) (.c (.bool true)) (.s 33)),im 35 34,ig 36 35 false (.mv (.s 9)),ig 37 35 false (.faddr 3 (.s 6)),ig 38 35 false (.load1 (.s 37)),ig 39 35 false (.lenL (.s 38)),ig 40 35 false (.bin .geq (.s 36) (.s 39)),iq 41 (.pick (.s 35) (.c (.bool true)) (.s 40))])
 (.cond (.s 41)
 (.seq
 (.reg [iq 8 (.mv (.c (.bool false)))])
 .ret)
 .skip))
 (.seq
 (.drw [ia 42 3 5,il 43 42,im 44 11,iq 45 (.iaddrS 1 (.s 43) (.s 44)),il 46 45,ia 47 3 6,il 48 47,im 49 9,iq 50 (.iaddrS 1 (.s 48) (.s 49)),il 51 50,im 12 46,im 13 51] [])
 (.seqj [0,3,5,6,12,13,15,16,17]
 (.seq
 (.reg [im 52 3,iq 53 (.not (.s 52))])
 (.cond (.s 53)
 (.reg [im 54 13,im 55 12,im 12 54,im 13 55])
 .skip))
 (.seq
 (.reg [im 56 0,im 57 12,im 58 13,iq 59 (.call 132 [.s 56, .s 57, .s 58]),iq 60 (.not (.s 59))])
 (.cond (.s 60)
 (.seq
 (.reg [iq 8 (.mv (.c (.bool false)))])
 .ret)
 .skip))))))))
 (.reg [iq 61 (.bin .add (.s 17) (.c (.int .i64 1))),im 17 61])))))))
 (.seq
 (.reg [iq 8 (.mv (.c (.bool true)))])
 .ret)))}
theorem Jnt :compFn Tryz.prog Tryz.f146 [[],[0,3,5,6,15,16,17],[0,3,5,6,15,16,17],[0,3,5,6,15,16,17],[0,3,5,6,9,11,15,16,17],[0,3,5,6,12,13,15,16,17]]=some QR:=by kernel_rfl
def Kc :Eva.Fn:={ntmps:=19,res:=[.s 4],body:=
 (.seq
 (.reg [ik 4 0])
 (.seqj []
 (.seq
 (.reg [im 6 0,iq 7 (.lenL (.s 6)),ik 8 0])
 (.block 0
 (.loop [0,1,7,8]
 (.seq
 (.reg [iq 9 (.bin .lss (.s 8) (.s 7))])
 (.seqj [0,1,7,8]
 (.cond (.s 9)
 .skip
 (.exit 0))
 (.seqj [0,1,7,8]
 (.block 1
 (.seq
 (.reg [im 10 8,im 5 10])
 (.seq
 (.reg [im 11 1,im 12 0,im 13 5,iq 14 (.iaddrS 1 (.s 12) (.s 13)),il 15 14,iq 16 (.eq (.one .s) false (.s 11) (.s 15))])
 (.cond (.s 16)
 (.seq
 (.reg [im 17 5,im 4 17])
 .ret)
 .skip))))
 (.reg [iq 18 (.bin .add (.s 8) (.c (.int .i64 1))),im 8 18])))))))
 (.seq
 (.reg [iq 4 (.mv (.c (.int .i64 (-1))))])
 .ret)))}
theorem Jnu :compFn Tryz.prog Tryz.f103 [[],[0,1,7,8],[0,1,7,8],[0,1,7,8]]=some Kc:=by kernel_rfl
def Qq :Eva.Fn:={ntmps:=35,res:=[.s 6],body:=
 (.seq
 (.reg [iq 4 (.box (.s 1)),iq 5 (.box (.s 2)),iq 6 (.mv (.c (.bool false)))])
 (.seqj []
 (.seq
 (.reg [ia 8 3 4,il 9 8,iq 10 (.lenL (.s 9)),ik 11 0])
 (.block 0
 (.loop [0,4,5,10,11]
 (.seq
 (.reg [iq 12 (.bin .lss (.s 11) (.s 10))])
 (.seqj [0,4,5,10,11]
 (.cond (.s 12)
 .skip
 (.exit 0))
 (.seqj [0,4,5,10,11]
 (.block 1
 (.seq
 (.reg [im 13 11,im 7 13])
 (.seq
 (.drw [im 14 7,ia 15 3 5,il 16 15,iq 17 (.lenL (.s 16)),iq 18 (.bin .geq (.s 14) (.s 17)),im 19 18,ig 20 19 false (.mv (.s 0)),ig 21 19 false (.faddr 3 (.s 4)),ig 22 19 false (.load1 (.s 21)),ig 23 19 false (.mv (.s 7)),ig 24 19 false (.iaddrS 1 (.s 22) (.s 23)),ig 25 19 false (.load1 (.s 24)),ig 26 19 false (.faddr 3 (.s 5)),ig 27 19 false (.load1 (.s 26)),ig 28 19 false (.mv (.s 7)),ig 29 19 false (.iaddrS 1 (.s 27) (.s 28)),ig 30 19 false (.load1 (.s 29)),⟨(some 31),(.call 132 [.s 20, .s 25, .s 30]),(some (19,false)),(some [])⟩,ig 32 19 false (.not (.s 31)),iq 33 (.pick (.s 19) (.c (.bool true)) (.s 32))] [])
 (.cond (.s 33)
 (.seq
 (.reg [iq 6 (.mv (.c (.bool false)))])
 .ret)
 .skip))))
 (.reg [iq 34 (.bin .add (.s 11) (.c (.int .i64 1))),im 11 34])))))))
 (.seq
 (.reg [iq 6 (.mv (.c (.bool true)))])
 .ret)))}
theorem Jnv :compFn Tryz.prog Tryz.f147 [[],[0,4,5,10,11],[0,4,5,10,11],[0,4,5,10,11]]=some Qq:=by kernel_rfl
def Kd :Eva.Fn:={ntmps:=173,res:=[.s 4, .s 5],body:=
 (.seq
 (.reg [iq 2 (.box (.s 0)),ik 4 0,ik 5 0])
 (.seq
 (.reg [ia 7 1 2,il 8 7,iq 9 (.iaddrS 4 (.s 8) (.c (.int .i64 0))),ia 10 0 9,il 11 10,im 6 11])
 (.seqj [2]
 (.seq
 (.reg [im 12 1])
 (.block 0
 (.seq
 (.reg [iq 14 (.eq (.one .s) false (.s 12) (.c (ofL [108,101,110]))),im 13 14])
 (.cond (.s 13)
 (.seq
 (.reg [iq 15 (.loadn 3 (.s 2)),im 16 6,iq 17 (.eq (.one .i) false (.s 16) (.c (.int .i64 3))),im 18 17,ig 19 18 false (.mv (.s 6)),ig 20 18 false (.eq (.one .i) false (.s 19) (.c (.int .i64 4))),iq 21 (.pick (.s 18) (.c (.bool true)) (.s 20)),im 22 21,ig 23 22 false (.mv (.s 6)),ig 24 22 false (.eq (.one .i) false (.s 23) (.c (.int .i64 5))),iq 25 (.pick (.s 22) (.c (.bool true)) (.s 24)),iq 26 (.call 133 [.s 15,(.c (.int .i64 2)), .s 25]),ie 27 0 26,ie 28 1 26,im 4 27,im 5 28])
 .ret)
 (.seq
 (.reg [iq 30 (.eq (.one .s) false (.s 12) (.c (ofL [110,111,116]))),im 29 30])
 (.cond (.s 29)
 (.seq
 (.drw [iq 31 (.loadn 3 (.s 2)),iq 32 (.loadn 3 (.s 2)),iq 33 (.bsl 1 1 [(.int .i64 0)] [(0,1,(.c (.int .i64 1)))]),⟨(some 34),(.call 134 [.s 32, .s 33]),none,(some [2])⟩,⟨(some 35),(.call 133 [.s 31,(.c (.int .i64 1)), .s 34]),none,(some [])⟩,ie 36 0 35,ie 37 1 35,im 4 36,im 5 37] [])
 .ret)
 (.seqj [2,6,12,38]
 (.seq
 (.reg [iq 39 (.eq (.one .s) false (.s 12) (.c (ofL [97,110,100]))),im 38 39])
 (.cond (.s 38)
 .skip
 (.reg [iq 40 (.eq (.one .s) false (.s 12) (.c (ofL [111,114]))),im 38 40])))
 (.cond (.s 38)
 (.seq
 (.drw [iq 41 (.loadn 3 (.s 2)),iq 42 (.loadn 3 (.s 2)),iq 43 (.bsl 1 2 [(.int .i64 0),(.int .i64 0)] [(0,1,(.c (.int .i64 1))),(1,1,(.c (.int .i64 1)))]),⟨(some 44),(.call 134 [.s 42, .s 43]),none,(some [2])⟩,⟨(some 45),(.call 133 [.s 41,(.c (.int .i64 1)), .s 44]),none,(some [])⟩,ie 46 0 45,ie 47 1 45,im 4 46,im 5 47] [])
 .ret)
 (.seq
 (.reg [iq 49 (.eq (.one .s) false (.s 12) (.c (ofL [101,113]))),im 48 49])
 (.cond (.s 48)
 (.seq
 (.drw [iq 50 (.loadn 3 (.s 2)),im 51 6,iq 52 (.bin .geq (.s 51) (.c (.int .i64 1))),im 53 52,ig 54 53 true (.mv (.s 6)),ig 55 53 true (.bin .leq (.s 54) (.c (.int .i64 3))),iq 56 (.pick (.s 53) (.s 55) (.c (.bool false))),im 57 56,ig 58 57 true (.loadn 3 (.s 2)),ig 59 57 true (.mv (.s 6)),ig 60 57 true (.mv (.s 6)),ig 61 57 true (.bsl 1 2 [(.int .i64 0),(.int .i64 0)] [(0,1,(.s 59)),(1,1,(.s 60))]),⟨(some 62),(.call 134 [.s 58, .s 61]),(some (57,true)),(some [2])⟩,iq 63 (.pick (.s 57) (.s 62) (.c (.bool false))),⟨(some 64),(.call 133 [.s 50,(.c (.int .i64 1)), .s 63]),none,(some [])⟩,ie 65 0 64,ie 66 1 64,im 4 65,im 5 66] [])
 .ret)
 (.seq
 (.reg [iq 68 (.eq (.one .s) false (.s 12) (.c (ofL [108,116]))),im 67 68])
 (.cond (.s 67)
 (.seq
 (.drw [iq 69 (.loadn 3 (.s 2)),iq 70 (.loadn 3 (.s 2)),iq 71 (.bsl 1 2 [(.int .i64 0),(.int .i64 0)] [(0,1,(.c (.int .i64 2))),(1,1,(.c (.int .i64 2)))]),⟨(some 72),(.call 134 [.s 70, .s 71]),none,(some [2])⟩,⟨(some 73),(.call 133 [.s 69,(.c (.int .i64 1)), .s 72]),none,(some [])⟩,ie 74 0 73,ie 75 1 73,im 4 74,im 5 75] [])
 .ret)
 (.seqj [2,6,12,76]
 (.seq
 (.reg [iq 77 (.eq (.one .s) false (.s 12) (.c (ofL [97,100,100]))),im 76 77])
 (.cond (.s 76)
 .skip
 (.seq
 (.reg [iq 78 (.eq (.one .s) false (.s 12) (.c (ofL [115,117,98]))),im 76 78])
 (.cond (.s 76)
 .skip
 (.seq
 (.reg [iq 79 (.eq (.one .s) false (.s 12) (.c (ofL [109,117,108]))),im 76 79])
 (.cond (.s 76)
 .skip
 (.seq
 (.reg [iq 80 (.eq (.one .s) false (.s 12) (.c (ofL [115,104,108]))),im 76 80])
 (.cond (.s 76)
 .skip
 (.reg [iq 81 (.eq (.one .s) false (.s 12) (.c (ofL [115,104,114]))),im 76 81])))))))))
 (.cond (.s 76)
 (.seq
 (.drw [iq 82 (.loadn 3 (.s 2)),iq 83 (.loadn 3 (.s 2)),iq 84 (.bsl 1 2 [(.int .i64 0),(.int .i64 0)] [(0,1,(.c (.int .i64 2))),(1,1,(.c (.int .i64 2)))]),⟨(some 85),(.call 134 [.s 83, .s 84]),none,(some [2])⟩,⟨(some 86),(.call 133 [.s 82,(.c (.int .i64 2)), .s 85]),none,(some [])⟩,ie 87 0 86,ie 88 1 86,im 4 87,im 5 88] [])
 .ret)
 (.seq
 (.reg [iq 90 (.eq (.one .s) false (.s 12) (.c (ofL [99,97,116]))),im 89 90])
 (.cond (.s 89)
 (.seq
 (.drw [iq 91 (.loadn 3 (.s 2)),iq 92 (.loadn 3 (.s 2)),iq 93 (.bsl 1 2 [(.int .i64 0),(.int .i64 0)] [(0,1,(.c (.int .i64 3))),(1,1,(.c (.int .i64 3)))]),⟨(some 94),(.call 134 [.s 92, .s 93]),none,(some [2])⟩,⟨(some 95),(.call 133 [.s 91,(.c (.int .i64 3)), .s 94]),none,(some [])⟩,ie 96 0 95,ie 97 1 95,im 4 96,im 5 97] [])
 .ret)
 (.seq
 (.reg [iq 99 (.eq (.one .s) false (.s 12) (.c (ofL [116,101,120,116]))),im 98 99])
 (.cond (.s 98)
 (.seq
 (.reg [iq 100 (.loadn 3 (.s 2)),im 101 6,iq 102 (.eq (.one .i) false (.s 101) (.c (.int .i64 2))),im 103 102,ig 104 103 false (.mv (.s 6)),ig 105 103 false (.eq (.one .i) false (.s 104) (.c (.int .i64 1))),iq 106 (.pick (.s 103) (.c (.bool true)) (.s 105)),iq 107 (.call 133 [.s 100,(.c (.int .i64 3)), .s 106]),ie 108 0 107,ie 109 1 107,im 4 108,im 5 109])
 .ret)
 (.seq
 (.reg [iq 111 (.eq (.one .s) false (.s 12) (.c (ofL [97,116]))),im 110 111])
 (.cond (.s 110)
 (.seq
 (.drw [iq 112 (.loadn 3 (.s 2)),iq 113 (.loadn 3 (.s 2)),iq 114 (.bsl 1 2 [(.int .i64 0),(.int .i64 0)] [(0,1,(.c (.int .i64 4))),(1,1,(.c (.int .i64 2)))]),⟨(some 115),(.call 134 [.s 113, .s 114]),none,(some [2])⟩,⟨(some 116),(.call 135 [.s 112, .s 115]),none,(some [])⟩,ie 117 0 116,ie 118 1 116,im 4 117,im 5 118] [])
 .ret)
 (.seq
 (.reg [iq 120 (.eq (.one .s) false (.s 12) (.c (ofL [103,101,116]))),im 119 120])
 (.cond (.s 119)
 (.seq
 (.reg [iq 121 (.loadn 3 (.s 2)),iq 122 (.call 136 [.s 121]),ie 123 0 122,ie 124 1 122,im 4 123,im 5 124])
 .ret)
 (.seq
 (.reg [iq 126 (.eq (.one .s) false (.s 12) (.c (ofL [104,97,115]))),im 125 126])
 (.cond (.s 125)
 (.seq
 (.drw [iq 127 (.loadn 3 (.s 2)),iq 128 (.loadn 3 (.s 2)),iq 129 (.bsl 1 1 [(.int .i64 0)] [(0,1,(.c (.int .i64 6)))]),⟨(some 130),(.call 134 [.s 128, .s 129]),none,(some [2])⟩,⟨(some 131),(.call 133 [.s 127,(.c (.int .i64 1)), .s 130]),none,(some [])⟩,ie 132 0 131,ie 133 1 131,im 4 132,im 5 133] [])
 .ret)
 (.seq
 (.reg [iq 135 (.eq (.one .s) false (.s 12) (.c (ofL [111,114,101,108,115,101]))),im 134 135])
 (.cond (.s 134)
 (.seq
 (.drw [iq 136 (.loadn 3 (.s 2)),iq 137 (.loadn 3 (.s 2)),iq 138 (.bsl 1 1 [(.int .i64 0)] [(0,1,(.c (.int .i64 6)))]),⟨(some 139),(.call 134 [.s 137, .s 138]),none,(some [2])⟩,im 140 139,ig 141 140 true (.faddr 1 (.s 2)),ig 142 140 true (.load1 (.s 141)),ig 143 140 true (.iaddrS 4 (.s 142) (.c (.int .i64 0))),ig 144 140 true (.faddr 3 (.s 143)),ig 145 140 true (.load1 (.s 144)),ig 146 140 true (.lenL (.s 145)),ig 147 140 true (.eq (.one .i) false (.s 146) (.c (.int .i64 1))),iq 148 (.pick (.s 140) (.s 147) (.c (.bool false))),im 149 148,ig 150 149 true (.faddr 2 (.s 2)),ig 151 149 true (.load1 (.s 150)),ig 152 149 true (.iaddrS 1 (.s 151) (.c (.int .i64 1))),ig 153 149 true (.load1 (.s 152)),ig 154 149 true (.faddr 1 (.s 2)),ig 155 149 true (.load1 (.s 154)),ig 156 149 true (.iaddrS 4 (.s 155) (.c (.int .i64 0))),ig 157 149 true (.faddr 3 (.s 156)),ig 158 149 true (.load1 (.s 157)),ig 159 149 true (.iaddrS 1 (.s 158) (.c (.int .i64 0))),ig 160 149 true (.load1 (.s 159)),ig 161 149 true (.eq (.one .i) false (.s 153) (.s 160)),iq 162 (.pick (.s 149) (.s 161) (.c (.bool false))),⟨(some 163),(.call 135 [.s 136, .s 162]),none,(some [])⟩,ie 164 0 163,ie 165 1 163,im 4 164,im 5 165] [])
 .ret)
 .skip))))))))))))))))))))))))))
 (.seq
 (.drw [iq 166 (.loadn 3 (.s 2)),iq 167 (.loadn 3 (.s 2)),iq 168 (.bsl 1 1 [(.int .i64 0)] [(0,1,(.c (.int .i64 2)))]),⟨(some 169),(.call 134 [.s 167, .s 168]),none,(some [2])⟩,⟨(some 170),(.call 133 [.s 166,(.c (.int .i64 2)), .s 169]),none,(some [])⟩,ie 171 0 170,ie 172 1 170,im 4 171,im 5 172] [])
 .ret))))}
theorem Jnw :compFn Tryz.prog Tryz.f121 [[2],[2,6,12,38],[2,6,12,76]]=some Kd:=by kernel_rfl
def KP :Eva.Fn:={ntmps:=16,res:=[.s 6, .s 7],body:=
 (.seq
 (.reg [iq 3 (.box (.s 0)),ik 6 0,ik 7 0])
 (.seqj [1,3]
 (.seq
 (.reg [im 8 2,iq 9 (.not (.s 8))])
 (.cond (.s 9)
 (.seq
 (.reg [ik 6 0,ik 7 17])
 .ret)
 .skip))
 (.seq
 (.reg [ia 10 0 3,il 11 10,im 12 1,iq 13 (.call 91 [.s 11, .s 12]),ie 14 0 13,ie 15 1 13,im 6 14,im 7 15])
 .ret)))}
theorem Jnx :compFn Tryz.prog Tryz.f133 [[1,3]]=some KP:=by kernel_rfl
def K7 :Eva.Fn:={ntmps:=23,res:=[.s 4],body:=
 (.seq
 (.reg [iq 2 (.box (.s 0)),iq 4 (.mv (.c (.bool false)))])
 (.seqj []
 (.seq
 (.reg [im 7 1,iq 8 (.lenL (.s 7)),ik 9 0])
 (.block 0
 (.loop [2,7,8,9]
 (.seq
 (.reg [iq 10 (.bin .lss (.s 9) (.s 8))])
 (.seqj [2,7,8,9]
 (.cond (.s 10)
 .skip
 (.exit 0))
 (.seqj [2,7,8,9]
 (.block 1
 (.seq
 (.reg [im 11 9,iq 12 (.iaddrS 1 (.s 7) (.s 9)),il 13 12,im 5 11,im 6 13])
 (.seq
 (.reg [ia 14 1 2,il 15 14,im 16 5,iq 17 (.iaddrS 4 (.s 15) (.s 16)),ia 18 0 17,il 19 18,im 20 6,iq 21 (.eq (.one .i) true (.s 19) (.s 20))])
 (.cond (.s 21)
 (.seq
 (.reg [iq 4 (.mv (.c (.bool false)))])
 .ret)
 .skip))))
 (.reg [iq 22 (.bin .add (.s 9) (.c (.int .i64 1))),im 9 22])))))))
 (.seq
 (.reg [iq 4 (.mv (.c (.bool true)))])
 .ret)))}
theorem Jny :compFn Tryz.prog Tryz.f134 [[],[2,7,8,9],[2,7,8,9],[2,7,8,9]]=some K7:=by kernel_rfl
def K8 :Eva.Fn:={ntmps:=24,res:=[.s 4, .s 5],body:=
 (.seq
 (.reg [iq 2 (.box (.s 0)),ik 4 0,ik 5 0])
 (.seqj [2]
 (.seq
 (.reg [im 6 1,iq 7 (.not (.s 6)),im 8 7,ig 9 8 false (.faddr 1 (.s 2)),ig 10 8 false (.load1 (.s 9)),ig 11 8 false (.iaddrS 4 (.s 10) (.c (.int .i64 0))),ig 12 8 false (.faddr 3 (.s 11)),ig 13 8 false (.load1 (.s 12)),ig 14 8 false (.lenL (.s 13)),ig 15 8 false (.eq (.one .i) false (.s 14) (.c (.int .i64 0))),iq 16 (.pick (.s 8) (.c (.bool true)) (.s 15))])
 (.cond (.s 16)
 (.seq
 (.reg [ik 4 0,ik 5 17])
 .ret)
 .skip))
 (.seq
 (.reg [ia 17 1 2,il 18 17,iq 19 (.iaddrS 4 (.s 18) (.c (.int .i64 0))),ia 20 3 19,il 21 20,iq 22 (.iaddrS 1 (.s 21) (.c (.int .i64 0))),il 23 22,im 4 23,ik 5 0])
 .ret)))}
theorem Jnz :compFn Tryz.prog Tryz.f135 [[2]]=some K8:=by kernel_rfl
def K9 :Eva.Fn:={ntmps:=44,res:=[.s 2, .s 3],body:=
 (.seq
 (.reg [iq 1 (.box (.s 0)),ik 2 0,ik 3 0])
 (.seq
 (.drw [iq 11 (.loadn 3 (.s 1)),iq 12 (.loadn 3 (.s 1)),iq 13 (.bsl 1 2 [(.int .i64 0),(.int .i64 0)] [(0,1,(.c (.int .i64 5))),(1,1,(.c (.int .i64 3)))]),⟨(some 14),(.call 134 [.s 12, .s 13]),none,(some [1])⟩,⟨(some 15),(.call 135 [.s 11, .s 14]),none,(some [])⟩,im 10 15,ie 16 0 10,ie 17 1 10,im 4 16,im 5 17] [])
 (.seqj [1,4]
 (.seq
 (.reg [im 18 5,iq 19 (.eq (.one .i) true (.s 18) (.c (.int .i64 0)))])
 (.cond (.s 19)
 (.seq
 (.reg [im 20 5,ik 2 0,im 3 20])
 .ret)
 .skip))
 (.seq
 (.reg [ia 22 0 1,il 23 22,im 24 4,iq 25 (.call 93 [.s 23, .s 24]),im 21 25,ie 26 0 21,ie 27 1 21,im 6 26,im 7 27])
 (.seqj [1,4]
 (.seq
 (.reg [ia 29 0 1,il 30 29,im 31 6,iq 32 (.call 94 [.s 30, .s 31]),im 28 32,ie 33 0 28,ie 34 1 28,iq 8 (.alloc [(.int .i64 0),(ofL []), .snil, .snil]),iz (.store 4 (.s 8) (.s 33)),im 9 34])
 (.seq
 (.reg [ia 35 0 8,il 36 35,iq 37 (.eq (.one .i) false (.s 36) (.c (.int .i64 6)))])
 (.cond (.s 37)
 (.seq
 (.reg [ik 2 0,ik 3 17])
 .ret)
 .skip)))
 (.seq
 (.reg [ia 38 0 1,il 39 38,im 40 4,iq 41 (.call 143 [.s 39, .s 40]),ie 42 0 41,ie 43 1 41,im 2 42,im 3 43])
 .ret))))))}
theorem JnA :compFn Tryz.prog Tryz.f136 [[1,4],[1,4]]=some K9:=by kernel_rfl
def Qr :Eva.Fn:={ntmps:=13,res:=[.s 4, .s 5],body:=
 (.seq
 (.reg [ik 4 0,ik 5 0])
 (.seq
 (.reg [im 6 0,im 7 1,iq 8 (.bsl 1 1 [(.int .i64 0)] [(0,1,(.s 7))]),iq 9 (.build [(.int .i64 0),(ofL []), .snil, .snil] [(0,1,(.c (.int .i64 6))),(3,1,(.s 8))]),iq 10 (.call 80 [.s 6, .s 9]),ie 11 0 10,ie 12 1 10,im 4 11,im 5 12])
 .ret))}
theorem JnB :compFn Tryz.prog Tryz.f143 []=some Qr:=by kernel_rfl
def QD :Eva.Fn:={ntmps:=82,res:=[.s 6, .s 7],body:=
 (.seq
 (.reg [iq 3 (.box (.s 0)),iq 5 (.box (.s 2)),ik 6 0,ik 7 0])
 (.seq
 (.reg [iq 20 (.loadn 3 (.s 3)),ia 21 1 5,il 22 21,iq 23 (.call 122 [.s 20, .s 22]),im 19 23,ie 24 0 19,ie 25 1 19,im 8 24,im 9 25])
 (.seqj [1,3,5,8]
 (.seq
 (.reg [im 26 9,iq 27 (.not (.s 26))])
 (.cond (.s 27)
 (.seq
 (.reg [ik 6 0,ik 7 15])
 .ret)
 .skip))
 (.seq
 (.reg [iq 29 (.loadn 3 (.s 3)),im 30 8,ia 31 2 5,il 32 31,iq 33 (.call 123 [.s 29, .s 30, .s 32]),im 28 33,ie 34 0 28,ie 35 1 28,im 10 34,im 11 35])
 (.seqj [10]
 (.seq
 (.reg [ia 36 2 5,il 37 36,im 38 11,iq 39 (.cutL 1 (.s 37) (some (.s 38)) none none),iq 40 (.lenL (.s 39)),ik 41 0])
 (.block 0
 (.loop [1,10,39,40,41]
 (.seq
 (.reg [iq 42 (.bin .lss (.s 41) (.s 40))])
 (.seqj [1,10,39,40,41]
 (.cond (.s 42)
 .skip
 (.exit 0))
 (.seqj [1,10,39,40,41]
 (.block 1
 (.seq
 (.reg [iq 43 (.iaddrS 1 (.s 39) (.s 41)),il 44 43,im 13 44])
 (.seq
 (.reg [im 46 1,im 47 10,iq 48 (.call 93 [.s 46, .s 47]),im 45 48,ie 49 0 45,ie 50 1 45,im 14 49,im 15 50])
 (.seq
 (.reg [im 52 1,im 53 14,iq 54 (.call 94 [.s 52, .s 53]),im 51 54,ie 55 0 51,ie 56 1 51,iq 16 (.alloc [(.int .i64 0),(ofL []), .snil, .snil]),iz (.store 4 (.s 16) (.s 55)),im 17 56])
 (.seq
 (.reg [ia 57 2 16,il 58 57,im 59 13,iq 60 (.call 103 [.s 58, .s 59]),im 18 60])
 (.seqj [1,16,18,39,40,41]
 (.seq
 (.reg [ia 61 0 16,il 62 61,iq 63 (.eq (.one .i) true (.s 62) (.c (.int .i64 7))),im 64 63,ig 65 64 false (.mv (.s 18)),ig 66 64 false (.bin .lss (.s 65) (.c (.int .i64 0))),iq 67 (.pick (.s 64) (.c (.bool true)) (.s 66)),im 68 67,ig 69 68 false (.mv (.s 18)),ig 70 68 false (.faddr 3 (.s 16)),ig 71 68 false (.load1 (.s 70)),ig 72 68 false (.lenL (.s 71)),ig 73 68 false (.bin .geq (.s 69) (.s 72)),iq 74 (.pick (.s 68) (.c (.bool true)) (.s 73))])
 (.cond (.s 74)
 (.seq
 (.reg [ik 6 0,ik 7 16])
 .ret)
 .skip))
 (.reg [ia 75 3 16,il 76 75,im 77 18,iq 78 (.iaddrS 1 (.s 76) (.s 77)),il 79 78,im 10 79])))))))
 (.reg [iq 80 (.bin .add (.s 41) (.c (.int .i64 1))),im 41 80])))))))
 (.seq
 (.reg [im 81 10,im 6 81,ik 7 0])
 .ret))))))}
theorem Jqj :compFn Tryz.prog Tryz.f92 [[1,3,5,8],[10],[1,10,39,40,41],[1,10,39,40,41],[1,10,39,40,41],[1,16,18,39,40,41]]=some QD:=by kernel_rfl
def QE :Eva.Fn:={ntmps:=66,res:=[.s 6, .s 7],body:=
 (.seq
 (.reg [iq 3 (.box (.s 0)),ik 6 0,ik 7 0])
 (.seq
 (.reg [ia 12 0 3,il 13 12,im 8 13,ik 9 0])
 (.seqj [1,2,3,8,9]
 (.seq
 (.reg [im 14 1,iq 15 (.eq (.one .i) true (.s 14) (.c (.int .i64 (-1))))])
 (.cond (.s 15)
 (.reg [ia 16 1 3,il 17 16,im 18 1,iq 19 (.iaddrS 2 (.s 17) (.s 18)),ia 20 1 19,il 21 20,im 8 21])
 .skip))
 (.seqj [8,9]
 (.seq
 (.reg [ia 22 2 3,il 23 22,iq 24 (.lenL (.s 23)),ik 25 0])
 (.block 0
 (.loop [1,2,8,9,23,24,25]
 (.seq
 (.reg [iq 26 (.bin .lss (.s 25) (.s 24))])
 (.seqj [1,2,8,9,23,24,25]
 (.cond (.s 26)
 .skip
 (.exit 0))
 (.seqj [1,2,8,9,23,24,25]
 (.block 1
 (.seq
 (.reg [iq 27 (.iaddrS 3 (.s 23) (.s 25)),iq 28 (.loadn 3 (.s 27)),iq 11 (.alloc [(.int .i64 0), .snil,(.int .i64 0)]),iz (.store 3 (.s 11) (.s 28))])
 (.seq
 (.drw [ia 29 0 11,il 30 29,im 31 1,iq 32 (.eq (.one .i) false (.s 30) (.s 31)),im 33 32,ig 34 33 true (.faddr 1 (.s 11)),ig 35 33 true (.load1 (.s 34)),ig 36 33 true (.lenL (.s 35)),ig 37 33 true (.mv (.s 9)),ig 38 33 true (.bin .geq (.s 36) (.s 37)),iq 39 (.pick (.s 33) (.s 38) (.c (.bool false))),im 40 39,ig 41 40 true (.faddr 1 (.s 11)),ig 42 40 true (.load1 (.s 41)),ig 43 40 true (.lenL (.s 42)),ig 44 40 true (.mv (.s 2)),ig 45 40 true (.lenL (.s 44)),ig 46 40 true (.bin .leq (.s 43) (.s 45)),iq 47 (.pick (.s 40) (.s 46) (.c (.bool false))),im 48 47,ig 49 48 true (.faddr 1 (.s 11)),ig 50 48 true (.load1 (.s 49)),ig 51 48 true (.mv (.s 2)),ig 52 48 true (.faddr 1 (.s 11)),ig 53 48 true (.load1 (.s 52)),ig 54 48 true (.lenL (.s 53)),ig 55 48 true (.cutL 1 (.s 51) none (some (.s 54)) none),⟨(some 56),(.call 137 [.s 50, .s 55]),(some (48,true)),(some [])⟩,iq 57 (.pick (.s 48) (.s 56) (.c (.bool false)))] [])
 (.cond (.s 57)
 (.drw [ia 58 2 11,il 59 58,ia 60 1 11,il 61 60,iq 62 (.lenL (.s 61)),im 8 59,im 9 62] [])
 .skip))))
 (.reg [iq 63 (.bin .add (.s 25) (.c (.int .i64 1))),im 25 63])))))))
 (.seq
 (.reg [im 64 8,im 65 9,im 6 64,im 7 65])
 .ret)))))}
theorem JnC :compFn Tryz.prog Tryz.f123 [[1,2,3,8,9],[8,9],[1,2,8,9,23,24,25],[1,2,8,9,23,24,25],[1,2,8,9,23,24,25]]=some QE:=by kernel_rfl
def Ke :Eva.Fn:={ntmps:=26,res:=[.s 4],body:=
 (.seq
 (.reg [iq 4 (.mv (.c (.bool false)))])
 (.seqj [0,1]
 (.seq
 (.reg [im 6 0,iq 7 (.lenL (.s 6)),im 8 1,iq 9 (.lenL (.s 8)),iq 10 (.eq (.one .i) true (.s 7) (.s 9))])
 (.cond (.s 10)
 (.seq
 (.reg [iq 4 (.mv (.c (.bool false)))])
 .ret)
 .skip))
 (.seqj []
 (.seq
 (.reg [im 11 0,iq 12 (.lenL (.s 11)),ik 13 0])
 (.block 0
 (.loop [0,1,12,13]
 (.seq
 (.reg [iq 14 (.bin .lss (.s 13) (.s 12))])
 (.seqj [0,1,12,13]
 (.cond (.s 14)
 .skip
 (.exit 0))
 (.seqj [0,1,12,13]
 (.block 1
 (.seq
 (.reg [im 15 13,im 5 15])
 (.seq
 (.drw [im 16 0,im 17 5,iq 18 (.iaddrS 1 (.s 16) (.s 17)),il 19 18,im 20 1,im 21 5,iq 22 (.iaddrS 1 (.s 20) (.s 21)),il 23 22,iq 24 (.eq (.one .s) true (.s 19) (.s 23))] [])
 (.cond (.s 24)
 (.seq
 (.reg [iq 4 (.mv (.c (.bool false)))])
 .ret)
 .skip))))
 (.reg [iq 25 (.bin .add (.s 13) (.c (.int .i64 1))),im 13 25])))))))
 (.seq
 (.reg [iq 4 (.mv (.c (.bool true)))])
 .ret))))}
theorem JnD :compFn Tryz.prog Tryz.f137 [[0,1],[],[0,1,12,13],[0,1,12,13],[0,1,12,13]]=some Ke:=by kernel_rfl
def Kn :Eva.Fn:={ntmps:=108,res:=[.s 8],body:=
 (.seq
 (.reg [iq 5 (.box (.s 1)),iq 6 (.box (.s 2)),ik 8 0])
 (.seq
 (.reg [im 10 0,im 11 3,iq 12 (.call 65 [.s 10, .s 11]),iq 9 (.alloc [(.int .i64 0),(ofL []), .snil, .snil]),iz (.store 4 (.s 9) (.s 12))])
 (.seqj []
 (.seq
 (.reg [ia 13 0 6,il 14 13])
 (.block 0
 (.seq
 (.reg [iq 16 (.eq (.one .i) false (.s 14) (.c (.int .i64 2))),im 15 16])
 (.cond (.s 15)
 (.seq
 (.reg [ia 17 0 9,il 18 17,iq 19 (.bin .lss (.s 18) (.c (.int .i64 1))),im 20 19,ig 21 20 false (.faddr 0 (.s 9)),ig 22 20 false (.load1 (.s 21)),ig 23 20 false (.bin .gtr (.s 22) (.c (.int .i64 3))),iq 24 (.pick (.s 20) (.c (.bool true)) (.s 23))])
 (.cond (.s 24)
 (.seq
 (.reg [ik 8 17])
 .ret)
 .skip))
 (.seq
 (.reg [iq 26 (.eq (.one .i) false (.s 14) (.c (.int .i64 4))),im 25 26])
 (.cond (.s 25)
 (.seq
 (.reg [im 27 0,iq 28 (.loadn 3 (.s 5)),ia 29 3 6,il 30 29,im 31 3,iq 32 (.call 66 [.s 27, .s 28, .s 30, .s 31]),im 8 32])
 .ret)
 (.seq
 (.reg [iq 34 (.eq (.one .i) false (.s 14) (.c (.int .i64 5))),im 33 34])
 (.cond (.s 33)
 (.seq
 (.reg [im 35 0,iq 36 (.loadn 3 (.s 5)),iq 37 (.loadn 9 (.s 6)),im 38 3,iq 39 (.call 67 [.s 35, .s 36, .s 37, .s 38]),im 8 39])
 .ret)
 (.seq
 (.reg [iq 41 (.eq (.one .i) false (.s 14) (.c (.int .i64 6))),im 40 41])
 (.cond (.s 40)
 (.seqj [0,3,5,6]
 (.seq
 (.reg [ia 42 0 9,il 43 42,iq 44 (.eq (.one .i) false (.s 43) (.c (.int .i64 6))),im 45 44,ig 46 45 true (.faddr 3 (.s 9)),ig 47 45 true (.load1 (.s 46)),ig 48 45 true (.lenL (.s 47)),ig 49 45 true (.eq (.one .i) false (.s 48) (.c (.int .i64 1))),iq 50 (.pick (.s 45) (.s 49) (.c (.bool false)))])
 (.cond (.s 50)
 (.reg [ia 51 3 9,il 52 51,iq 53 (.iaddrS 1 (.s 52) (.c (.int .i64 0))),il 54 53,im 3 54])
 .skip))
 (.seq
 (.drw [im 55 0,iq 56 (.loadn 3 (.s 5)),im 57 3,iq 58 (.call 69 [.s 56, .s 57]),ia 59 5 6,il 60 59,iq 61 (.loadn 3 (.s 5)),ia 62 6 6,il 63 62,⟨(some 64),(.call 68 [.s 55, .s 58, .s 60, .s 61, .s 63]),none,(some [])⟩,im 8 64] [])
 .ret))
 (.seq
 (.reg [iq 66 (.eq (.one .i) false (.s 14) (.c (.int .i64 7))),im 65 66])
 (.cond (.s 65)
 (.seqj [0,5,6,9]
 (.seq
 (.reg [ia 67 0 9,il 68 67,iq 69 (.eq (.one .i) true (.s 68) (.c (.int .i64 4))),im 70 69,ig 71 70 true (.faddr 0 (.s 9)),ig 72 70 true (.load1 (.s 71)),ig 73 70 true (.eq (.one .i) true (.s 72) (.c (.int .i64 5))),iq 74 (.pick (.s 70) (.s 73) (.c (.bool false))),im 75 74,ig 76 75 false (.faddr 3 (.s 9)),ig 77 75 false (.load1 (.s 76)),ig 78 75 false (.lenL (.s 77)),ig 79 75 false (.eq (.one .i) true (.s 78) (.c (.int .i64 1))),iq 80 (.pick (.s 75) (.c (.bool true)) (.s 79))])
 (.cond (.s 80)
 (.seq
 (.reg [ik 8 17])
 .ret)
 .skip))
 (.seq
 (.drw [im 81 0,iq 82 (.loadn 3 (.s 5)),ia 83 3 9,il 84 83,iq 85 (.iaddrS 1 (.s 84) (.c (.int .i64 0))),il 86 85,iq 87 (.call 69 [.s 82, .s 86]),ia 88 5 6,il 89 88,iq 90 (.loadn 3 (.s 5)),ia 91 6 6,il 92 91,⟨(some 93),(.call 68 [.s 81, .s 87, .s 89, .s 90, .s 92]),none,(some [])⟩,im 8 93] [])
 .ret))
 (.seq
 (.reg [iq 95 (.eq (.one .i) false (.s 14) (.c (.int .i64 8))),im 94 95])
 (.cond (.s 94)
 (.seq
 (.reg [im 96 0,iq 97 (.loadn 3 (.s 5)),iq 98 (.loadn 9 (.s 6)),im 99 3,iq 100 (.call 70 [.s 96, .s 97, .s 98, .s 99]),im 8 100])
 .ret)
 (.seq
 (.reg [iq 102 (.eq (.one .i) false (.s 14) (.c (.int .i64 9))),im 101 102])
 (.cond (.s 101)
 (.seq
 (.reg [im 103 0,iq 104 (.loadn 3 (.s 5)),iq 105 (.loadn 9 (.s 6)),im 106 3,iq 107 (.call 71 [.s 103, .s 104, .s 105, .s 106]),im 8 107])
 .ret)
 .skip))))))))))))))))
 (.seq
 (.reg [ik 8 0])
 .ret))))}
theorem Jqk :compFn Tryz.prog Tryz.f36 [[],[0,3,5,6],[0,5,6,9]]=some Kn:=by kernel_rfl
def KQ :Eva.Fn:={ntmps:=31,res:=[(.cn 4 4)],body:=
 (.seq
 (.reg [iq 4 (.alloc [(.int .i64 0),(ofL []), .snil, .snil])])
 (.seq
 (.reg [im 10 0,iq 11 (.nilck (.s 10)),ia 12 0 11,il 13 12,im 14 1,iq 15 (.call 93 [.s 13, .s 14]),im 9 15,ie 16 0 9,ie 17 1 9,im 5 16,im 6 17])
 (.seqj [0,4,5]
 (.seq
 (.reg [im 18 6,iq 19 (.not (.s 18))])
 (.cond (.s 19)
 (.seq
 (.reg [iq 20 (.build [(.int .i64 0),(ofL []), .snil, .snil] []),iz (.store 4 (.s 4) (.s 20))])
 .ret)
 .skip))
 (.seq
 (.reg [im 22 0,iq 23 (.nilck (.s 22)),ia 24 0 23,il 25 24,im 26 5,iq 27 (.call 94 [.s 25, .s 26]),im 21 27,ie 28 0 21,ie 29 1 21,iq 7 (.alloc [(.int .i64 0),(ofL []), .snil, .snil]),iz (.store 4 (.s 7) (.s 28)),im 8 29])
 (.seq
 (.reg [iq 30 (.loadn 4 (.s 7)),iz (.store 4 (.s 4) (.s 30))])
 .ret)))))}
theorem Jql :compFn Tryz.prog Tryz.f65 [[0,4,5]]=some KQ:=by kernel_rfl
def KR :Eva.Fn:={ntmps:=56,res:=[.s 8],body:=
 (.seq
 (.reg [iq 5 (.box (.s 1)),iq 6 (.box (.s 2)),ik 8 0])
 (.seq
 (.reg [im 14 0,im 15 3,iq 16 (.call 65 [.s 14, .s 15]),iq 9 (.alloc [(.int .i64 0),(ofL []), .snil, .snil]),iz (.store 4 (.s 9) (.s 16))])
 (.seq
 (.reg [iq 17 (.loadn 3 (.s 5)),iq 10 (.alloc [(.int .i64 0), .snil, .snil]),iz (.store 3 (.s 10) (.s 17))])
 (.seqj []
 (.seq
 (.reg [ia 18 0 9,il 19 18])
 (.block 0
 (.seqj [0,5,6,10]
 (.block 2
 (.seqj [0,5,6,9,10]
 (.block 1
 (.seqj []
 (.seqj [0,5,6,10,19]
 (.seq
 (.reg [iq 21 (.eq (.one .i) false (.s 19) (.c (.int .i64 6))),im 20 21])
 (.cond (.s 20)
 (.exit 1)
 .skip))
 (.seq
 (.reg [iq 23 (.eq (.one .i) false (.s 19) (.c (.int .i64 1))),im 22 23])
 (.cond (.s 22)
 (.exit 2)
 .skip)))
 (.exit 0)))
 (.seq
 (.reg [iq 25 (.loadn 3 (.s 5)),ia 26 4 6,il 27 26,iq 28 (.call 98 [.s 25, .s 27]),im 24 28,ie 29 0 24,ie 30 1 24,ie 31 2 24,im 11 29,im 12 30,im 13 31])
 (.seq
 (.reg [im 32 13,im 33 32,ig 34 33 true (.faddr 3 (.s 9)),ig 35 33 true (.load1 (.s 34)),ig 36 33 true (.lenL (.s 35)),ig 37 33 true (.eq (.one .i) false (.s 36) (.c (.int .i64 1))),iq 38 (.pick (.s 33) (.s 37) (.c (.bool false)))])
 (.cond (.s 38)
 (.drw [iq 39 (.loadn 3 (.s 5)),im 40 11,im 41 12,ia 42 3 9,il 43 42,iq 44 (.iaddrS 1 (.s 43) (.c (.int .i64 0))),il 45 44,iq 46 (.build [(.int .i64 0), .snil,(.int .i64 0)] [(0,1,(.s 40)),(1,1,(.s 41)),(2,1,(.s 45))]),⟨(some 47),(.call 99 [.s 39, .s 46]),none,(some [])⟩,iz (.store 3 (.s 10) (.s 47))] [])
 .skip)))))
 (.seq
 (.seq
 (.reg [im 48 0,iq 49 (.loadn 3 (.s 10)),ia 50 5 6,il 51 50,iq 52 (.loadn 3 (.s 5)),ia 53 6 6,il 54 53,iq 55 (.call 68 [.s 48, .s 49, .s 51, .s 52, .s 54]),im 8 55])
 .ret)
 (.exit 0)))))
 (.seq
 (.reg [ik 8 17])
 .ret)))))}
theorem Jqm :compFn Tryz.prog Tryz.f67 [[],[0,5,6,10],[0,5,6,9,10],[],[0,5,6,10,19]]=some KR:=by kernel_rfl
def Yo :Eva.Fn:={ntmps:=49,res:=[.s 4, .s 5, .s 6],body:=
 (.seq
 (.reg [iq 2 (.box (.s 0)),ik 4 0,iq 5 (.mv (.c .snil)),iq 6 (.mv (.c (.bool false)))])
 (.seqj [1,2]
 (.seq
 (.reg [im 9 1,iq 10 (.lenL (.s 9)),iq 11 (.eq (.one .i) true (.s 10) (.c (.int .i64 1))),im 12 11,ig 13 12 false (.mv (.s 1)),ig 14 12 false (.iaddrS 1 (.s 13) (.c (.int .i64 0))),ig 15 12 false (.faddr 0 (.s 14)),ig 16 12 false (.load1 (.s 15)),ig 17 12 false (.lenL (.s 16)),ig 18 12 false (.eq (.one .i) true (.s 17) (.c (.int .i64 1))),iq 19 (.pick (.s 12) (.c (.bool true)) (.s 18)),im 20 19,ig 21 20 false (.mv (.s 1)),ig 22 20 false (.iaddrS 1 (.s 21) (.c (.int .i64 0))),ig 23 20 false (.faddr 0 (.s 22)),ig 24 20 false (.load1 (.s 23)),ig 25 20 false (.iaddrS 7 (.s 24) (.c (.int .i64 0))),ig 26 20 false (.faddr 0 (.s 25)),ig 27 20 false (.load1 (.s 26)),ig 28 20 false (.eq (.one .i) true (.s 27) (.c (.int .i64 1))),iq 29 (.pick (.s 20) (.c (.bool true)) (.s 28))])
 (.cond (.s 29)
 (.seq
 (.reg [ik 4 0,iq 5 (.mv (.c .snil)),iq 6 (.mv (.c (.bool false)))])
 .ret)
 .skip))
 (.seq
 (.reg [im 30 1,iq 31 (.iaddrS 1 (.s 30) (.c (.int .i64 0))),ia 32 0 31,il 33 32,iq 34 (.iaddrS 7 (.s 33) (.c (.int .i64 0))),iq 35 (.loadn 7 (.s 34)),iq 7 (.alloc [(.int .i64 0),(ofL []), .snil,(ofL []),(.int .i64 0),(.bool false), .snil]),iz (.store 7 (.s 7) (.s 35))])
 (.seq
 (.reg [iq 37 (.loadn 3 (.s 2)),ia 38 1 7,il 39 38,iq 40 (.call 122 [.s 37, .s 39]),im 36 40,ie 41 0 36,ie 42 1 36,im 4 41,im 8 42])
 (.seqj [4,7]
 (.seq
 (.reg [im 43 8,iq 44 (.not (.s 43))])
 (.cond (.s 44)
 (.seq
 (.reg [ik 4 0,iq 5 (.mv (.c .snil)),iq 6 (.mv (.c (.bool false)))])
 .ret)
 .skip))
 (.seq
 (.reg [im 45 4,ia 46 2 7,il 47 46,iq 48 (.call 112 [.s 47]),im 4 45,im 5 48,iq 6 (.mv (.c (.bool true)))])
 .ret))))))}
theorem Jqn :compFn Tryz.prog Tryz.f98 [[1,2],[4,7]]=some Yo:=by kernel_rfl
def QY :Eva.Fn:={ntmps:=21,res:=[(.cn 4 3)],body:=
 (.seq
 (.reg [iq 2 (.box (.s 0)),iq 3 (.box (.s 1)),iq 4 (.alloc [(.int .i64 0), .snil, .snil])])
 (.seq
 (.reg [ia 6 2 2,il 7 6,iq 8 (.lenL (.s 7)),iq 9 (.bin .add (.s 8) (.c (.int .i64 1))),iq 10 (.mksl 3 [(.int .i64 0), .snil,(.int .i64 0)] (.s 9) (.s 9)),im 5 10])
 (.seq
 (.drw [im 11 5,im 12 5,ia 13 2 2,il 14 13,iq 15 (.copy 3 (.s 12) (.s 14)),iq 16 (.loadn 3 (.s 3)),iq 17 (.iaddrS 3 (.s 11) (.s 15)),iz (.store 3 (.s 17) (.s 16))] [([12],[3])])
 (.seq
 (.reg [im 18 5,ia 19 2 2,iz (.store 1 (.s 19) (.s 18))])
 (.seq
 (.reg [iq 20 (.loadn 3 (.s 2)),iz (.store 3 (.s 4) (.s 20))])
 .ret)))))}
theorem Jqo :compFn Tryz.prog Tryz.f99 []=some QY:=by kernel_rfl
def KS :Eva.Fn:={ntmps:=23,res:=[.s 10],body:=
 (.seq
 (.reg [iq 6 (.box (.s 1)),iq 8 (.box (.s 3)),ik 10 0])
 (.seqj [0,4,8]
 (.seq
 (.reg [im 12 0,iq 13 (.loadn 3 (.s 6)),im 14 2,iq 15 (.call 17 [.s 12, .s 13, .s 14]),im 11 15])
 (.seq
 (.reg [im 16 11,iq 17 (.eq (.one .i) true (.s 16) (.c (.int .i64 0)))])
 (.cond (.s 17)
 (.seq
 (.reg [im 18 11,im 10 18])
 .ret)
 .skip)))
 (.seq
 (.reg [im 19 0,iq 20 (.loadn 3 (.s 8)),im 21 4,iq 22 (.call 17 [.s 19, .s 20, .s 21]),im 10 22])
 .ret)))}
theorem Jqp :compFn Tryz.prog Tryz.f68 [[0,4,8]]=some KS:=by kernel_rfl
def Yp :Eva.Fn:={ntmps:=13,res:=[(.cn 4 3)],body:=
 (.seq
 (.reg [iq 2 (.box (.s 0)),iq 4 (.alloc [(.int .i64 0), .snil, .snil])])
 (.seq
 (.reg [im 5 1,ia 6 0 2,iz (.store 1 (.s 6) (.s 5))])
 (.seq
 (.reg [ia 7 2 2,il 8 7,iq 9 (.call 101 [.s 8]),iq 10 (.call 100 [.s 9,(.c (.fn 102 [] []))]),ia 11 2 2,iz (.store 1 (.s 11) (.s 10))])
 (.seq
 (.reg [iq 12 (.loadn 3 (.s 2)),iz (.store 3 (.s 4) (.s 12))])
 .ret))))}
theorem Jqq :compFn Tryz.prog Tryz.f69 []=some Yp:=by kernel_rfl
def Kf :Eva.Fn:={ntmps:=8,res:=[.s 2],body:=
 (.seq
 (.reg [iq 2 (.mv (.c .snil))])
 (.seqj [0]
 (.seq
 (.reg [im 3 0,iq 4 (.eq (.one .l) false (.s 3) (.c .snil))])
 (.cond (.s 4)
 (.seq
 (.reg [iq 2 (.mv (.c .snil))])
 .ret)
 .skip))
 (.seq
 (.reg [iq 5 (.bsl 3 0 [] []),im 6 0,iq 7 (.app 3 (.s 5) (.s 6)),im 2 7])
 .ret)))}
theorem JnE :compFn Tryz.prog Tryz.f101 [[0]]=some Kf:=by kernel_rfl
def JJ :Eva.Fn:={ntmps:=42,res:=[.s 4],body:=
 (.seq
 (.reg [iq 4 (.mv (.c .snil))])
 (.seq
 (.reg [im 8 0,im 9 1,iq 10 (.call 125 [.s 8, .s 9]),im 5 10])
 (.seqj [0,1,5]
 (.seq
 (.reg [im 11 5,iq 12 (.eq (.one .i) false (.s 11) (.c (.int .i64 (-1))))])
 (.cond (.s 12)
 (.seq
 (.reg [im 13 0,im 4 13])
 .ret)
 .skip))
 (.seqj [0,5]
 (.seq
 (.reg [im 14 5,iq 15 (.bin .add (.s 14) (.c (.int .i64 1))),im 6 15])
 (.block 0
 (.loop [0,1,5,6]
 (.seqj [0,1,5,6]
 (.seq
 (.reg [im 16 6,im 17 0,iq 18 (.lenL (.s 17)),iq 19 (.bin .lss (.s 16) (.s 18))])
 (.cond (.s 19)
 .skip
 (.exit 0)))
 (.seqj [0,1,5,6]
 (.block 1
 (.seq
 (.reg [im 22 0,im 23 6,iq 24 (.iaddrS 3 (.s 22) (.s 23)),iq 25 (.loadn 3 (.s 24)),iq 7 (.alloc [(.int .i64 0), .snil,(.int .i64 0)]),iz (.store 3 (.s 7) (.s 25))])
 (.seq
 (.reg [im 26 1,iq 27 (.loadn 3 (.s 7)),iq 28 (.callv (.s 26) [.s 27]),iq 29 (.not (.s 28))])
 (.cond (.s 29)
 (.seq
 (.reg [im 30 0,im 31 5,iq 32 (.loadn 3 (.s 7)),iq 33 (.iaddrS 3 (.s 30) (.s 31)),iz (.store 3 (.s 33) (.s 32))])
 (.reg [im 34 5,iq 35 (.bin .add (.s 34) (.c (.int .i64 1))),im 5 35]))
 .skip))))
 (.reg [im 20 6,iq 21 (.bin .add (.s 20) (.c (.int .i64 1))),im 6 21]))))))
 (.seq
 (.reg [im 36 0,im 37 5,iq 38 (.cutL 3 (.s 36) (some (.s 37)) none none),iz (.clear 3 [(.int .i64 0), .snil,(.int .i64 0)] (.s 38))])
 (.seq
 (.reg [im 39 0,im 40 5,iq 41 (.cutL 3 (.s 39) none (some (.s 40)) none),im 4 41])
 .ret))))))}
theorem JnF :compFn Tryz.prog Tryz.f100 [[0,1,5],[0,5],[0,1,5,6],[0,1,5,6],[0,1,5,6]]=some JJ:=by kernel_rfl
def JP :Eva.Fn:={ntmps:=19,res:=[.s 4],body:=
 (.seq
 (.reg [ik 4 0])
 (.seqj []
 (.seq
 (.reg [im 6 0,iq 7 (.lenL (.s 6)),ik 8 0])
 (.block 0
 (.loop [0,1,7,8]
 (.seq
 (.reg [iq 9 (.bin .lss (.s 8) (.s 7))])
 (.seqj [0,1,7,8]
 (.cond (.s 9)
 .skip
 (.exit 0))
 (.seqj [0,1,7,8]
 (.block 1
 (.seq
 (.reg [im 10 8,im 5 10])
 (.seq
 (.reg [im 11 1,im 12 0,im 13 5,iq 14 (.iaddrS 3 (.s 12) (.s 13)),iq 15 (.loadn 3 (.s 14)),iq 16 (.callv (.s 11) [.s 15])])
 (.cond (.s 16)
 (.seq
 (.reg [im 17 5,im 4 17])
 .ret)
 .skip))))
 (.reg [iq 18 (.bin .add (.s 8) (.c (.int .i64 1))),im 8 18])))))))
 (.seq
 (.reg [iq 4 (.mv (.c (.int .i64 (-1))))])
 .ret)))}
theorem JnG :compFn Tryz.prog Tryz.f125 [[],[0,1,7,8],[0,1,7,8],[0,1,7,8]]=some JP:=by kernel_rfl
def QZ :Eva.Fn:={ntmps:=6,res:=[.s 2],body:=
 (.seq
 (.reg [iq 1 (.box (.s 0)),iq 2 (.mv (.c (.bool false)))])
 (.seq
 (.reg [ia 3 0 1,il 4 3,iq 5 (.eq (.one .i) false (.s 4) (.c (.int .i64 (-1)))),im 2 5])
 .ret))}
theorem JnH :compFn Tryz.prog Tryz.f102 []=some QZ:=by kernel_rfl
def J9 :Eva.Fn:={ntmps:=82,res:=[.s 8],body:=
 (.seq
 (.reg [iq 5 (.box (.s 1)),iq 6 (.box (.s 2)),ik 8 0])
 (.seq
 (.reg [im 15 0,im 16 3,iq 17 (.call 65 [.s 15, .s 16]),iq 9 (.alloc [(.int .i64 0),(ofL []), .snil, .snil]),iz (.store 4 (.s 9) (.s 17))])
 (.seqj [0,5,6,9]
 (.seq
 (.reg [ia 18 0 9,il 19 18,iq 20 (.eq (.one .i) true (.s 19) (.c (.int .i64 8)))])
 (.cond (.s 20)
 (.seq
 (.reg [ik 8 17])
 .ret)
 .skip))
 (.seq
 (.reg [ia 21 2 9,il 22 21,iq 23 (.lenL (.s 22)),iq 24 (.mksl 1 [(.bool false)] (.s 23) (.s 23)),im 10 24])
 (.seqj [0,5,6,10]
 (.seq
 (.reg [ia 25 8 6,il 26 25,iq 27 (.lenL (.s 26)),ik 28 0])
 (.block 0
 (.loop [0,5,6,9,10,26,27,28]
 (.seq
 (.reg [iq 29 (.bin .lss (.s 28) (.s 27))])
 (.seqj [0,5,6,9,10,26,27,28]
 (.cond (.s 29)
 .skip
 (.exit 0))
 (.seqj [0,5,6,9,10,26,27,28]
 (.block 1
 (.seq
 (.reg [iq 30 (.iaddrS 2 (.s 26) (.s 28)),iq 31 (.loadn 2 (.s 30)),iq 12 (.alloc [(ofL []), .snil]),iz (.store 2 (.s 12) (.s 31))])
 (.seq
 (.reg [ia 32 2 9,il 33 32,ia 34 0 12,il 35 34,iq 36 (.call 103 [.s 33, .s 35]),im 13 36])
 (.seqj [0,5,6,9,10,12,13,26,27,28]
 (.seq
 (.reg [im 37 13,iq 38 (.bin .lss (.s 37) (.c (.int .i64 0))),im 39 38,ig 40 39 false (.mv (.s 13)),ig 41 39 false (.faddr 3 (.s 9)),ig 42 39 false (.load1 (.s 41)),ig 43 39 false (.lenL (.s 42)),ig 44 39 false (.bin .geq (.s 40) (.s 43)),iq 45 (.pick (.s 39) (.c (.bool true)) (.s 44)),im 46 45,ig 47 46 false (.mv (.s 10)),ig 48 46 false (.mv (.s 13)),ig 49 46 false (.iaddrS 1 (.s 47) (.s 48)),ig 50 46 false (.load1 (.s 49)),iq 51 (.pick (.s 46) (.c (.bool true)) (.s 50))])
 (.cond (.s 51)
 (.seq
 (.reg [ik 8 19])
 .ret)
 .skip))
 (.seq
 (.reg [im 52 10,im 53 13,iq 54 (.iaddrS 1 (.s 52) (.s 53)),iz (.store 1 (.s 54) (.c (.bool true)))])
 (.seq
 (.drw [im 55 0,iq 56 (.loadn 3 (.s 5)),ia 57 3 9,il 58 57,im 59 13,iq 60 (.iaddrS 1 (.s 58) (.s 59)),il 61 60,iq 62 (.call 69 [.s 56, .s 61]),ia 63 1 12,il 64 63,⟨(some 65),(.call 17 [.s 55, .s 62, .s 64]),none,(some [])⟩,im 14 65] [])
 (.seq
 (.reg [im 66 14,iq 67 (.eq (.one .i) true (.s 66) (.c (.int .i64 0)))])
 (.cond (.s 67)
 (.seq
 (.reg [im 68 14,im 8 68])
 .ret)
 .skip))))))))
 (.reg [iq 69 (.bin .add (.s 28) (.c (.int .i64 1))),im 28 69])))))))
 (.seqj [0,5,6]
 (.seq
 (.reg [im 70 10,iq 71 (.call 104 [.s 70,(.c (.bool false))]),im 72 71,ig 73 72 true (.faddr 7 (.s 6)),ig 74 72 true (.load1 (.s 73)),ig 75 72 true (.not (.s 74)),iq 76 (.pick (.s 72) (.s 75) (.c (.bool false)))])
 (.cond (.s 76)
 (.seq
 (.reg [ik 8 19])
 .ret)
 .skip))
 (.seq
 (.reg [im 77 0,iq 78 (.loadn 3 (.s 5)),ia 79 6 6,il 80 79,iq 81 (.call 17 [.s 77, .s 78, .s 80]),im 8 81])
 .ret)))))))}
theorem Jqr :compFn Tryz.prog Tryz.f70 [[0,5,6,9],[0,5,6,10],[0,5,6,9,10,26,27,28],[0,5,6,9,10,26,27,28],[0,5,6,9,10,26,27,28],[0,5,6,9,10,12,13,26,27,28],[0,5,6]]=some J9:=by kernel_rfl
def J7 :Eva.Fn:={ntmps:=9,res:=[.s 4],body:=
 (.seq
 (.reg [iq 4 (.mv (.c (.bool false)))])
 (.seq
 (.reg [im 5 0,im 6 1,iq 7 (.call 126 [.s 5, .s 6]),iq 8 (.bin .geq (.s 7) (.c (.int .i64 0))),im 4 8])
 .ret))}
theorem JnI :compFn Tryz.prog Tryz.f104 []=some J7:=by kernel_rfl
def Kx :Eva.Fn:={ntmps:=19,res:=[.s 4],body:=
 (.seq
 (.reg [ik 4 0])
 (.seqj []
 (.seq
 (.reg [im 6 0,iq 7 (.lenL (.s 6)),ik 8 0])
 (.block 0
 (.loop [0,1,7,8]
 (.seq
 (.reg [iq 9 (.bin .lss (.s 8) (.s 7))])
 (.seqj [0,1,7,8]
 (.cond (.s 9)
 .skip
 (.exit 0))
 (.seqj [0,1,7,8]
 (.block 1
 (.seq
 (.reg [im 10 8,im 5 10])
 (.seq
 (.reg [im 11 1,im 12 0,im 13 5,iq 14 (.iaddrS 1 (.s 12) (.s 13)),il 15 14,iq 16 (.eq (.one .b) false (.s 11) (.s 15))])
 (.cond (.s 16)
 (.seq
 (.reg [im 17 5,im 4 17])
 .ret)
 .skip))))
 (.reg [iq 18 (.bin .add (.s 8) (.c (.int .i64 1))),im 8 18])))))))
 (.seq
 (.reg [iq 4 (.mv (.c (.int .i64 (-1))))])
 .ret)))}
theorem JnJ :compFn Tryz.prog Tryz.f126 [[],[0,1,7,8],[0,1,7,8],[0,1,7,8]]=some Kx:=by kernel_rfl
def KT :Eva.Fn:={ntmps:=36,res:=[.s 8],body:=
 (.seq
 (.reg [iq 5 (.box (.s 1)),iq 6 (.box (.s 2)),ik 8 0])
 (.seqj [0,3,6]
 (.seq
 (.reg [ia 9 4 6,il 10 9,iq 11 (.lenL (.s 10)),iq 12 (.eq (.one .i) false (.s 11) (.c (.int .i64 0)))])
 (.cond (.s 12)
 (.reg [ia 13 0 5,il 14 13,im 3 14])
 .skip))
 (.seqj [0,3,6]
 (.seq
 (.drw [im 15 0,iq 16 (.nilck (.s 15)),ia 17 1 16,il 18 17,ia 19 3 6,il 20 19,⟨(some 21),(.call 105 [.s 18, .s 20]),none,(some [])⟩,iq 22 (.not (.s 21))] [])
 (.cond (.s 22)
 (.seq
 (.reg [ik 8 15])
 .ret)
 .skip))
 (.seq
 (.drw [im 23 0,im 24 0,iq 25 (.nilck (.s 24)),ia 26 2 25,il 27 26,ia 28 3 6,il 29 28,im 30 3,iq 31 (.build [(ofL []),(.int .i64 0)] [(0,1,(.s 29)),(1,1,(.s 30))]),iq 32 (.bsl 2 1 [(ofL []),(.int .i64 0)] [(0,2,(.s 31))]),iq 33 (.app 2 (.s 27) (.s 32)),iq 34 (.nilck (.s 23)),ia 35 2 34,iz (.store 1 (.s 35) (.s 33))] [])
 (.seq
 (.reg [ik 8 0])
 .ret)))))}
theorem Jqs :compFn Tryz.prog Tryz.f71 [[0,3,6],[0,3,6]]=some KT:=by kernel_rfl
def JS :Eva.Fn:={ntmps:=9,res:=[.s 4],body:=
 (.seq
 (.reg [iq 4 (.mv (.c (.bool false)))])
 (.seq
 (.reg [im 5 0,im 6 1,iq 7 (.call 103 [.s 5, .s 6]),iq 8 (.bin .geq (.s 7) (.c (.int .i64 0))),im 4 8])
 .ret))}
theorem JnK :compFn Tryz.prog Tryz.f105 []=some JS:=by kernel_rfl
def QF :Eva.Fn:={ntmps:=25,res:=[(.cn 6 3)],body:=
 (.seq
 (.reg [iq 3 (.box (.s 0)),iq 6 (.alloc [(.int .i64 0), .snil, .snil])])
 (.seq
 (.reg [ia 8 1 3,il 9 8,iq 10 (.lenL (.s 9)),iq 11 (.bin .add (.s 10) (.c (.int .i64 1))),iq 12 (.mksl 2 [(ofL []),(.int .i64 0)] (.s 11) (.s 11)),im 7 12])
 (.seq
 (.reg [im 13 7,im 14 7,ia 15 1 3,il 16 15,iq 17 (.copy 2 (.s 14) (.s 16)),im 18 1,im 19 2,iq 20 (.build [(ofL []),(.int .i64 0)] [(0,1,(.s 18)),(1,1,(.s 19))]),iq 21 (.iaddrS 2 (.s 13) (.s 17)),iz (.store 2 (.s 21) (.s 20))])
 (.seq
 (.reg [im 22 7,ia 23 1 3,iz (.store 1 (.s 23) (.s 22))])
 (.seq
 (.reg [iq 24 (.loadn 3 (.s 3)),iz (.store 3 (.s 6) (.s 24))])
 .ret)))))}
theorem Jqt :compFn Tryz.prog Tryz.f37 []=some QF:=by kernel_rfl
def JQ :Eva.Fn:={ntmps:=15,res:=[.s 4],body:=
 (.seq
 (.reg [ik 4 0])
 (.seq
 (.reg [im 6 0,im 7 1,iq 8 (.bin .rem (.s 6) (.s 7)),im 5 8])
 (.seqj [5]
 (.seq
 (.reg [im 9 5,iq 10 (.bin .lss (.s 9) (.c (.int .i64 0)))])
 (.cond (.s 10)
 (.reg [im 11 5,im 12 1,iq 13 (.bin .add (.s 11) (.s 12)),im 5 13])
 .skip))
 (.seq
 (.reg [im 14 5,im 4 14])
 .ret))))}
theorem Jsd :compFn Tryz.prog Tryz.f6 [[5]]=some JQ:=by kernel_rfl
def Ko :Eva.Fn:={ntmps:=46,res:=[.s 4],body:=
 (.seq
 (.reg [iq 2 (.box (.s 0)),ik 4 0])
 (.seq
 (.reg [iq 15 (.loadn 6 (.s 2)),iq 16 (.call 8 [.s 15]),im 14 16,ie 17 0 14,ie 18 1 14,ie 19 2 14,iq 7 (.alloc [(.int .i64 0),(ofL []), .snil, .snil, .snil, .snil]),im 5 17,im 6 18,iz (.store 6 (.s 7) (.s 19))])
 (.seq
 (.reg [im 21 1,iq 22 (.call 9 [.s 21]),im 20 22,ie 23 0 20,ie 24 1 20,ie 25 2 20,im 8 23,im 9 24,im 10 25])
 (.seqj [5,8]
 (.seq
 (.reg [im 26 5,iq 27 (.eq (.one .p) false (.s 26) (.c .pnil)),im 28 27,ig 29 28 false (.mv (.s 10)),ig 30 28 false (.eq (.one .i) true (.s 29) (.c (.int .i64 0))),iq 31 (.pick (.s 28) (.c (.bool true)) (.s 30))])
 (.cond (.s 31)
 (.seq
 (.reg [ik 4 1])
 .ret)
 .skip))
 (.seq
 (.drw [im 33 5,iq 34 (.bsl 1 1 [(ofL [])] [(0,1,(.c (ofL [116])))]),im 35 5,iq 36 (.call 11 [.s 35]),im 37 8,iq 38 (.iaddrS 2 (.s 37) (.c (.int .i64 0))),ia 39 1 38,il 40 39,⟨(some 41),(.call 10 [.s 33, .s 34, .s 36, .s 40]),none,(some [])⟩,im 32 41,ie 42 0 32,ie 43 1 32,ie 44 2 32,im 11 42,im 12 43,im 13 44] [])
 (.seq
 (.reg [im 45 13,im 4 45])
 .ret))))))}
theorem Jse :compFn Tryz.prog Tryz.f7 [[5,8]]=some Ko:=by kernel_rfl
noncomputable def tabD :BT:=
 (.node 69 (.node 35 (.node 19 (.node 11 (.node 7 (.node 5 (.node 3 (.leaf 3 (fnD 1000000 JC))
 (.leaf 5 (fnD 1000000 KE)))
 (.node 6 (.leaf 6 (fnD 1000000 JQ))
 (.leaf 7 (fnD 1000000 Ko))))
 (.node 9 (.node 8 (.leaf 8 (fnD 1000000 Ks))
 (.leaf 9 (fnD 1000000 Kl)))
 (.node 10 (.leaf 10 (fnD 1000000 Q2))
 (.leaf 11 (fnD 1000000 K1)))))
 (.node 15 (.node 13 (.node 12 (.leaf 12 (fnD 1000000 YC))
 (.leaf 13 (fnD 1000000 Qy)))
 (.node 14 (.leaf 14 (fnD 1000000 J8))
 (.leaf 15 (fnD 1000000 Jt))))
 (.node 17 (.node 16 (.leaf 16 (fnD 1000000 JZ))
 (.leaf 17 (fnD 1000000 Km)))
 (.node 18 (.leaf 18 (fnD 1000000 QT))
 (.leaf 19 (fnD 1000000 Qb))))))
 (.node 27 (.node 23 (.node 21 (.node 20 (.leaf 20 (fnD 1000000 Ku))
 (.leaf 21 (fnD 1000000 KW)))
 (.node 22 (.leaf 22 (fnD 1000000 Kb))
 (.leaf 23 (fnD 1000000 KZ))))
 (.node 25 (.node 24 (.leaf 24 (fnD 1000000 KK))
 (.leaf 25 (fnD 1000000 JU)))
 (.node 26 (.leaf 26 (fnD 1000000 Qk))
 (.leaf 27 (fnD 1000000 Ql)))))
 (.node 31 (.node 29 (.node 28 (.leaf 28 (fnD 1000000 JV))
 (.leaf 29 (fnD 1000000 JY)))
 (.node 30 (.leaf 30 (fnD 1000000 JW))
 (.leaf 31 (fnD 1000000 J6))))
 (.node 33 (.node 32 (.leaf 32 (fnD 1000000 Jv))
 (.leaf 33 (fnD 1000000 JN)))
 (.node 34 (.leaf 34 (fnD 1000000 KN))
 (.leaf 35 (fnD 1000000 YY)))))))
 (.node 51 (.node 43 (.node 39 (.node 37 (.node 36 (.leaf 36 (fnD 1000000 Kn))
 (.leaf 37 (fnD 1000000 QF)))
 (.node 38 (.leaf 38 (fnD 1000000 QU))
 (.leaf 39 (fnD 1000000 QW))))
 (.node 41 (.node 40 (.leaf 40 (fnD 1000000 KF))
 (.leaf 41 (fnD 1000000 Kt)))
 (.node 42 (.leaf 42 (fnD 1000000 QN))
 (.leaf 43 (fnD 1000000 JG)))))
 (.node 47 (.node 45 (.node 44 (.leaf 44 (fnD 1000000 QX))
 (.leaf 45 (fnD 1000000 Kv)))
 (.node 46 (.leaf 46 (fnD 1000000 Qc))
 (.leaf 47 (fnD 1000000 KX))))
 (.node 49 (.node 48 (.leaf 48 (fnD 1000000 Qe))
 (.leaf 49 (fnD 1000000 Kg)))
 (.node 50 (.leaf 50 (fnD 1000000 Kw))
 (.leaf 51 (fnD 1000000 KJ))))))
 (.node 59 (.node 55 (.node 53 (.node 52 (.leaf 52 (fnD 1000000 QB))
 (.leaf 53 (fnD 1000000 Qg)))
 (.node 54 (.leaf 54 (fnD 1000000 Qi))
 (.leaf 55 (fnD 1000000 K0))))
 (.node 57 (.node 56 (.leaf 56 (fnD 1000000 Qj))
 (.leaf 57 (fnD 1000000 JH)))
 (.node 58 (.leaf 58 (fnD 1000000 JX))
 (.leaf 59 (fnD 1000000 JD)))))
 (.node 63 (.node 61 (.node 60 (.leaf 60 (fnD 1000000 JE))
 (.leaf 61 (fnD 1000000 JR)))
 (.node 62 (.leaf 62 (fnD 1000000 JO))
 (.leaf 63 (fnD 1000000 QC))))
 (.node 65 (.node 64 (.leaf 64 (fnD 1000000 KO))
 (.leaf 65 (fnD 1000000 KQ)))
 (.node 67 (.leaf 67 (fnD 1000000 KR))
 (.node 68 (.leaf 68 (fnD 1000000 KS))
 (.leaf 69 (fnD 1000000 Yp)))))))))
 (.node 105 (.node 85 (.node 77 (.node 73 (.node 71 (.node 70 (.leaf 70 (fnD 1000000 J9))
 (.leaf 71 (fnD 1000000 KT)))
 (.node 72 (.leaf 72 (fnD 1000000 Q7))
 (.leaf 73 (hookE Yn))))
 (.node 75 (.node 74 (.leaf 74 (fnD 1000000 Yb))
 (.leaf 75 (fnD 1000000 QM)))
 (.node 76 (.leaf 76 (fnD 1000000 Qx))
 (.leaf 77 (fnD 1000000 KG)))))
 (.node 81 (.node 79 (.node 78 (.leaf 78 (fnD 1000000 Yc))
 (.leaf 79 (fnD 1000000 JT)))
 (.node 80 (.leaf 80 (fnD 1000000 Qd))
 (.leaf 81 (fnD 1000000 KI))))
 (.node 83 (.node 82 (.leaf 82 (fnD 1000000 KY))
 (.leaf 83 (fnD 1000000 Qz)))
 (.node 84 (.leaf 84 (fnD 1000000 Qf))
 (.leaf 85 (fnD 1000000 Qh))))))
 (.node 93 (.node 89 (.node 87 (.node 86 (.leaf 86 (fnD 1000000 KL))
 (.leaf 87 (fnD 1000000 KM)))
 (.node 88 (.leaf 88 (fnD 1000000 JI))
 (.leaf 89 (fnD 1000000 JL))))
 (.node 91 (.node 90 (.leaf 90 (fnD 1000000 YE))
 (.leaf 91 (fnD 1000000 K3)))
 (.node 92 (.leaf 92 (fnD 1000000 QD))
 (.leaf 93 (fnD 1000000 K5)))))
 (.node 100 (.node 98 (.node 94 (.leaf 94 (fnD 1000000 K6))
 (.leaf 98 (fnD 1000000 Yo)))
 (.node 99 (.leaf 99 (fnD 1000000 QY))
 (.leaf 100 (fnD 1000000 JJ))))
 (.node 102 (.node 101 (.leaf 101 (fnD 1000000 Kf))
 (.leaf 102 (fnD 1000000 QZ)))
 (.node 103 (.leaf 103 (fnD 1000000 Kc))
 (.node 104 (.leaf 104 (fnD 1000000 J7))
 (.leaf 105 (fnD 1000000 JS))))))))
 (.node 122 (.node 114 (.node 110 (.node 107 (.node 106 (.leaf 106 (fnD 1000000 Q8))
 (.leaf 107 (fnD 1000000 YD)))
 (.node 109 (.leaf 109 (fnD 1000000 QO))
 (.leaf 110 (fnD 1000000 QP))))
 (.node 112 (.node 111 (.leaf 111 (fnD 1000000 Yd))
 (.leaf 112 (fnD 1000000 Ka)))
 (.node 113 (.leaf 113 (fnD 1000000 KH))
 (.leaf 114 (fnD 1000000 QA)))))
 (.node 118 (.node 116 (.node 115 (.leaf 115 (fnD 1000000 QQ))
 (.leaf 116 (fnD 1000000 JM)))
 (.node 117 (.leaf 117 (fnD 1000000 J5))
 (.leaf 118 (fnD 1000000 Qm))))
 (.node 120 (.node 119 (.leaf 119 (fnD 1000000 Ye))
 (.leaf 120 (fnD 1000000 kb)))
 (.node 121 (.leaf 121 (fnD 1000000 Kd))
 (.leaf 122 (hookE place0G))))))
 (.node 132 (.node 127 (.node 125 (.node 123 (.leaf 123 (fnD 1000000 QE))
 (.leaf 125 (fnD 1000000 JP)))
 (.node 126 (.leaf 126 (fnD 1000000 Kx))
 (.leaf 127 (fnD 1000000 Q9))))
 (.node 129 (.node 128 (.leaf 128 (fnD 1000000 Ya))
 (.leaf 129 (fnD 1000000 QV)))
 (.node 131 (.leaf 131 (fnD 1000000 Qn))
 (.leaf 132 (fnD 1000000 Qo)))))
 (.node 136 (.node 134 (.node 133 (.leaf 133 (fnD 1000000 KP))
 (.leaf 134 (fnD 1000000 K7)))
 (.node 135 (.leaf 135 (fnD 1000000 K8))
 (.leaf 136 (fnD 1000000 K9))))
 (.node 142 (.node 137 (.leaf 137 (fnD 1000000 Ke))
 (.leaf 142 (fnD 1000000 Qp)))
 (.node 143 (.leaf 143 (fnD 1000000 Qr))
 (.node 146 (.leaf 146 (fnD 1000000 QR))
 (.leaf 147 (fnD 1000000 Qq))))))))))
abbrev kM :Nat:=3
theorem kC :tabT tabD 3=some (evFn 1000000 JC):=by kernel_rfl
abbrev qC :Nat:=5
theorem JgB :tabT tabD 5=some (evFn 1000000 KE):=by kernel_rfl
abbrev Y4 :Nat:=6
theorem jJ :tabT tabD 6=some (evFn 1000000 JQ):=by kernel_rfl
abbrev Jag :Nat:=7
theorem qD :tabT tabD 7=some (evFn 1000000 Ko):=by kernel_rfl
abbrev Yq :Nat:=8
theorem Jgt :tabT tabD 8=some (evFn 1000000 Ks):=by kernel_rfl
abbrev kH :Nat:=9
theorem qE :tabT tabD 9=some (evFn 1000000 Kl):=by kernel_rfl
abbrev Jgu :Nat:=10
theorem Jeo :tabT tabD 10=some (evFn 1000000 Q2):=by kernel_rfl
abbrev kI :Nat:=11
theorem Jhz :tabT tabD 11=some (evFn 1000000 K1):=by kernel_rfl
abbrev Jsf :Nat:=12
theorem Jq8 :tabT tabD 12=some (evFn 1000000 YC):=by kernel_rfl
abbrev JkH :Nat:=13
theorem Jkg :tabT tabD 13=some (evFn 1000000 Qy):=by kernel_rfl
abbrev Jah :Nat:=14
theorem qF :tabT tabD 14=some (evFn 1000000 J8):=by kernel_rfl
abbrev QH :Nat:=15
theorem kA :tabT tabD 15=some (evFn 1000000 Jt):=by kernel_rfl
abbrev Ky :Nat:=16
theorem Jcs :tabT tabD 16=some (evFn 1000000 JZ):=by kernel_rfl
abbrev Qs :Nat:=17
theorem qG :tabT tabD 17=some (evFn 1000000 Km):=by kernel_rfl
abbrev JnY :Nat:=18
theorem JnL :tabT tabD 18=some (evFn 1000000 QT):=by kernel_rfl
abbrev Jkh :Nat:=19
theorem Jjj :tabT tabD 19=some (evFn 1000000 Qb):=by kernel_rfl
abbrev JgC :Nat:=20
theorem Jgv :tabT tabD 20=some (evFn 1000000 Ku):=by kernel_rfl
abbrev Jjk :Nat:=21
theorem JhA :tabT tabD 21=some (evFn 1000000 KW):=by kernel_rfl
abbrev Jex :Nat:=22
theorem Jep :tabT tabD 22=some (evFn 1000000 Kb):=by kernel_rfl
abbrev JaX :Nat:=23
theorem JaB :tabT tabD 23=some (evFn 1000000 KZ):=by kernel_rfl
abbrev JhB :Nat:=24
theorem JgD :tabT tabD 24=some (evFn 1000000 KK):=by kernel_rfl
abbrev JdH :Nat:=25
theorem Jct :tabT tabD 25=some (evFn 1000000 JU):=by kernel_rfl
abbrev Jki :Nat:=26
theorem Jjl :tabT tabD 26=some (evFn 1000000 Qk):=by kernel_rfl
abbrev Jkj :Nat:=27
theorem Jjm :tabT tabD 27=some (evFn 1000000 Ql):=by kernel_rfl
abbrev JdI :Nat:=28
theorem Jcu :tabT tabD 28=some (evFn 1000000 JV):=by kernel_rfl
abbrev JdJ :Nat:=29
theorem Jcv :tabT tabD 29=some (evFn 1000000 JY):=by kernel_rfl
abbrev JdK :Nat:=30
theorem Jcw :tabT tabD 30=some (evFn 1000000 JW):=by kernel_rfl
abbrev Jeq :Nat:=31
theorem JdL :tabT tabD 31=some (evFn 1000000 J6):=by kernel_rfl
abbrev Jq :Nat:=32
theorem QI :tabT tabD 32=some (evFn 1000000 Jv):=by kernel_rfl
abbrev jp :Nat:=33
theorem kZ :tabT tabD 33=some (evFn 1000000 JN):=by kernel_rfl
abbrev JhC :Nat:=34
theorem JgE :tabT tabD 34=some (evFn 1000000 KN):=by kernel_rfl
abbrev JdM :Nat:=35
theorem Jsg :tabT tabD 35=some (evFn 1000000 YY):=by kernel_rfl
abbrev Jai :Nat:=36
theorem qH :tabT tabD 36=some (evFn 1000000 Kn):=by kernel_rfl
abbrev JkI :Nat:=37
theorem Jkk :tabT tabD 37=some (evFn 1000000 QF):=by kernel_rfl
abbrev JnZ :Nat:=38
theorem JnM :tabT tabD 38=some (evFn 1000000 QU):=by kernel_rfl
abbrev Jn0 :Nat:=39
theorem JnN :tabT tabD 39=some (evFn 1000000 QW):=by kernel_rfl
abbrev JhD :Nat:=40
theorem JgF :tabT tabD 40=some (evFn 1000000 KF):=by kernel_rfl
abbrev JgG :Nat:=41
theorem Jgw :tabT tabD 41=some (evFn 1000000 Kt):=by kernel_rfl
abbrev JnO :Nat:=42
theorem JkJ :tabT tabD 42=some (evFn 1000000 QN):=by kernel_rfl
abbrev Jca :Nat:=43
theorem Ja5 :tabT tabD 43=some (evFn 1000000 JG):=by kernel_rfl
abbrev Jn1 :Nat:=44
theorem JnP :tabT tabD 44=some (evFn 1000000 QX):=by kernel_rfl
abbrev JgH :Nat:=45
theorem Jgx :tabT tabD 45=some (evFn 1000000 Kv):=by kernel_rfl
abbrev Jkl :Nat:=46
theorem Jjn :tabT tabD 46=some (evFn 1000000 Qc):=by kernel_rfl
abbrev Jjo :Nat:=47
theorem JhE :tabT tabD 47=some (evFn 1000000 KX):=by kernel_rfl
abbrev Jkm :Nat:=48
theorem Jjp :tabT tabD 48=some (evFn 1000000 Qe):=by kernel_rfl
abbrev Jgy :Nat:=49
theorem Jey :tabT tabD 49=some (evFn 1000000 Kg):=by kernel_rfl
abbrev JgI :Nat:=50
theorem Jgz :tabT tabD 50=some (evFn 1000000 Kw):=by kernel_rfl
abbrev JhF :Nat:=51
theorem JgJ :tabT tabD 51=some (evFn 1000000 KJ):=by kernel_rfl
abbrev JkK :Nat:=52
theorem Jkn :tabT tabD 52=some (evFn 1000000 QB):=by kernel_rfl
abbrev Jko :Nat:=53
theorem Jjq :tabT tabD 53=some (evFn 1000000 Qg):=by kernel_rfl
abbrev Jkp :Nat:=54
theorem Jjr :tabT tabD 54=some (evFn 1000000 Qi):=by kernel_rfl
abbrev Jjs :Nat:=55
theorem JhG :tabT tabD 55=some (evFn 1000000 K0):=by kernel_rfl
abbrev Jkq :Nat:=56
theorem Jjt :tabT tabD 56=some (evFn 1000000 Qj):=by kernel_rfl
abbrev Jcb :Nat:=57
theorem Ja6 :tabT tabD 57=some (evFn 1000000 JH):=by kernel_rfl
abbrev JdN :Nat:=58
theorem Jcx :tabT tabD 58=some (evFn 1000000 JX):=by kernel_rfl
abbrev kN :Nat:=59
theorem kD :tabT tabD 59=some (evFn 1000000 JD):=by kernel_rfl
abbrev kO :Nat:=60
theorem kE :tabT tabD 60=some (evFn 1000000 JE):=by kernel_rfl
abbrev Jcy :Nat:=61
theorem Jci :tabT tabD 61=some (evFn 1000000 JR):=by kernel_rfl
abbrev Jcj :Nat:=62
theorem Jcc :tabT tabD 62=some (evFn 1000000 JO):=by kernel_rfl
abbrev JkL :Nat:=63
theorem Jkr :tabT tabD 63=some (evFn 1000000 QC):=by kernel_rfl
abbrev JhH :Nat:=64
theorem JgK :tabT tabD 64=some (evFn 1000000 KO):=by kernel_rfl
abbrev kB :Nat:=65
theorem JgL :tabT tabD 65=some (evFn 1000000 KQ):=by kernel_rfl
abbrev JhI :Nat:=67
theorem JgM :tabT tabD 67=some (evFn 1000000 KR):=by kernel_rfl
abbrev JhJ :Nat:=68
theorem JgN :tabT tabD 68=some (evFn 1000000 KS):=by kernel_rfl
abbrev JaT :Nat:=69
theorem Jqu :tabT tabD 69=some (evFn 1000000 Yp):=by kernel_rfl
abbrev j7 :Nat:=70
theorem jK :tabT tabD 70=some (evFn 1000000 J9):=by kernel_rfl
abbrev JhK :Nat:=71
theorem JgO :tabT tabD 71=some (evFn 1000000 KT):=by kernel_rfl
abbrev Jqv :Nat:=72
theorem Jn2 :tabT tabD 72=some (evFn 1000000 Q7):=by kernel_rfl
abbrev JhL :Nat:=73
theorem JgP :tabT tabD 73=some (hookE Yn).b:=by kernel_rfl
abbrev Jqw :Nat:=74
theorem Jn3 :tabT tabD 74=some (evFn 1000000 Yb):=by kernel_rfl
abbrev JnQ :Nat:=75
theorem JkM :tabT tabD 75=some (evFn 1000000 QM):=by kernel_rfl
abbrev JkN :Nat:=76
theorem Jks :tabT tabD 76=some (evFn 1000000 Qx):=by kernel_rfl
abbrev JhM :Nat:=77
theorem JgQ :tabT tabD 77=some (evFn 1000000 KG):=by kernel_rfl
abbrev Jqx :Nat:=78
theorem Jn4 :tabT tabD 78=some (evFn 1000000 Yc):=by kernel_rfl
abbrev JdO :Nat:=79
theorem Jcz :tabT tabD 79=some (evFn 1000000 JT):=by kernel_rfl
abbrev Jkt :Nat:=80
theorem Jju :tabT tabD 80=some (evFn 1000000 Qd):=by kernel_rfl
abbrev JhN :Nat:=81
theorem JgR :tabT tabD 81=some (evFn 1000000 KI):=by kernel_rfl
abbrev Jjv :Nat:=82
theorem JhO :tabT tabD 82=some (evFn 1000000 KY):=by kernel_rfl
abbrev JkO :Nat:=83
theorem Jku :tabT tabD 83=some (evFn 1000000 Qz):=by kernel_rfl
abbrev Jkv :Nat:=84
theorem Jjw :tabT tabD 84=some (evFn 1000000 Qf):=by kernel_rfl
abbrev Jkw :Nat:=85
theorem Jjx :tabT tabD 85=some (evFn 1000000 Qh):=by kernel_rfl
abbrev JhP :Nat:=86
theorem JgS :tabT tabD 86=some (evFn 1000000 KL):=by kernel_rfl
abbrev JhQ :Nat:=87
theorem JgT :tabT tabD 87=some (evFn 1000000 KM):=by kernel_rfl
abbrev Jcd :Nat:=88
theorem Ja7 :tabT tabD 88=some (evFn 1000000 JI):=by kernel_rfl
abbrev Jck :Nat:=89
theorem Jce :tabT tabD 89=some (evFn 1000000 JL):=by kernel_rfl
abbrev Jsh :Nat:=90
theorem Jq9 :tabT tabD 90=some (evFn 1000000 YE):=by kernel_rfl
abbrev Jjy :Nat:=91
theorem JhR :tabT tabD 91=some (evFn 1000000 K3):=by kernel_rfl
abbrev JkP :Nat:=92
theorem Jkx :tabT tabD 92=some (evFn 1000000 QD):=by kernel_rfl
abbrev Jjz :Nat:=93
theorem JhS :tabT tabD 93=some (evFn 1000000 K5):=by kernel_rfl
abbrev JjA :Nat:=94
theorem JhT :tabT tabD 94=some (evFn 1000000 K6):=by kernel_rfl
abbrev Jra :Nat:=98
theorem Jqy :tabT tabD 98=some (evFn 1000000 Yo):=by kernel_rfl
abbrev Jn5 :Nat:=99
theorem JnR :tabT tabD 99=some (evFn 1000000 QY):=by kernel_rfl
abbrev Jcf :Nat:=100
theorem Ja8 :tabT tabD 100=some (evFn 1000000 JJ):=by kernel_rfl
abbrev Jez :Nat:=101
theorem Jer :tabT tabD 101=some (evFn 1000000 Kf):=by kernel_rfl
abbrev Jn6 :Nat:=102
theorem JnS :tabT tabD 102=some (evFn 1000000 QZ):=by kernel_rfl
abbrev YN :Nat:=103
theorem Jes :tabT tabD 103=some (evFn 1000000 Kc):=by kernel_rfl
abbrev YM :Nat:=104
theorem JdP :tabT tabD 104=some (evFn 1000000 J7):=by kernel_rfl
abbrev JcA :Nat:=105
theorem Jcl :tabT tabD 105=some (evFn 1000000 JS):=by kernel_rfl
abbrev Jqz :Nat:=106
theorem Jn7 :tabT tabD 106=some (evFn 1000000 Q8):=by kernel_rfl
abbrev Jsi :Nat:=107
theorem Jrb :tabT tabD 107=some (evFn 1000000 YD):=by kernel_rfl
abbrev JnT :Nat:=109
theorem JkQ :tabT tabD 109=some (evFn 1000000 QO):=by kernel_rfl
abbrev JnU :Nat:=110
theorem JkR :tabT tabD 110=some (evFn 1000000 QP):=by kernel_rfl
abbrev JqA :Nat:=111
theorem Jn8 :tabT tabD 111=some (evFn 1000000 Yd):=by kernel_rfl
abbrev JeA :Nat:=112
theorem Jet :tabT tabD 112=some (evFn 1000000 Ka):=by kernel_rfl
abbrev JhU :Nat:=113
theorem JgU :tabT tabD 113=some (evFn 1000000 KH):=by kernel_rfl
abbrev JkS :Nat:=114
theorem Jky :tabT tabD 114=some (evFn 1000000 QA):=by kernel_rfl
abbrev JnV :Nat:=115
theorem JkT :tabT tabD 115=some (evFn 1000000 QQ):=by kernel_rfl
abbrev Jcm :Nat:=116
theorem Jcg :tabT tabD 116=some (evFn 1000000 JM):=by kernel_rfl
abbrev Jeu :Nat:=117
theorem JdQ :tabT tabD 117=some (evFn 1000000 J5):=by kernel_rfl
abbrev Jkz :Nat:=118
theorem JjB :tabT tabD 118=some (evFn 1000000 Qm):=by kernel_rfl
abbrev JqB :Nat:=119
theorem Jn9 :tabT tabD 119=some (evFn 1000000 Ye):=by kernel_rfl
abbrev JsR :Nat:=120
theorem Jsk :tabT tabD 120=some (evFn 1000000 kb):=by kernel_rfl
abbrev JeB :Nat:=121
theorem Jev :tabT tabD 121=some (evFn 1000000 Kd):=by kernel_rfl
abbrev JkA :Nat:=122
theorem JjC :tabT tabD 122=some (hookE place0G).b:=by kernel_rfl
abbrev JkU :Nat:=123
theorem JkB :tabT tabD 123=some (evFn 1000000 QE):=by kernel_rfl
abbrev Jcn :Nat:=125
theorem Jch :tabT tabD 125=some (evFn 1000000 JP):=by kernel_rfl
abbrev JgV :Nat:=126
theorem JgA :tabT tabD 126=some (evFn 1000000 Kx):=by kernel_rfl
abbrev JqC :Nat:=127
theorem Joa :tabT tabD 127=some (evFn 1000000 Q9):=by kernel_rfl
abbrev JqD :Nat:=128
theorem Job :tabT tabD 128=some (evFn 1000000 Ya):=by kernel_rfl
abbrev Joc :Nat:=129
theorem JnW :tabT tabD 129=some (evFn 1000000 QV):=by kernel_rfl
abbrev JkC :Nat:=131
theorem JjD :tabT tabD 131=some (evFn 1000000 Qn):=by kernel_rfl
abbrev JkD :Nat:=132
theorem JjE :tabT tabD 132=some (evFn 1000000 Qo):=by kernel_rfl
abbrev JhV :Nat:=133
theorem JgW :tabT tabD 133=some (evFn 1000000 KP):=by kernel_rfl
abbrev JjF :Nat:=134
theorem JhW :tabT tabD 134=some (evFn 1000000 K7):=by kernel_rfl
abbrev JjG :Nat:=135
theorem JhX :tabT tabD 135=some (evFn 1000000 K8):=by kernel_rfl
abbrev JjH :Nat:=136
theorem JhY :tabT tabD 136=some (evFn 1000000 K9):=by kernel_rfl
abbrev JeC :Nat:=137
theorem Jew :tabT tabD 137=some (evFn 1000000 Ke):=by kernel_rfl
abbrev JkE :Nat:=142
theorem JjI :tabT tabD 142=some (evFn 1000000 Qp):=by kernel_rfl
abbrev JkF :Nat:=143
theorem JjJ :tabT tabD 143=some (evFn 1000000 Qr):=by kernel_rfl
abbrev JnX :Nat:=146
theorem JkV :tabT tabD 146=some (evFn 1000000 QR):=by kernel_rfl
abbrev JkG :Nat:=147
theorem JjK :tabT tabD 147=some (evFn 1000000 Qq):=by kernel_rfl
theorem mixed :Tryz.prog.follows .mixedOrders=true:=by kernel_rfl
theorem Jsj {ρ:Nat->Value}{W:World}(hρ:∀i,(ρ i).oneCell'=true)(hm:hasM 0 W):tabD.all fun i e=>BodyOK Tryz.prog ρ ⟨W.heap.size,W⟩ i e.b:=
 ⟨⟨⟨⟨⟨⟨⟨Jl Jr9 Tryz.func3 (by decide) hρ mixed,Jl Jsa Tryz.func5 (by decide) hρ mixed⟩,⟨Jl Jsd Tryz.func6 (by decide) hρ mixed,Jl Jse Tryz.func7 (by decide) hρ mixed⟩⟩,⟨⟨Jl Jsb Tryz.func8 (by decide) hρ mixed,Jl Jsc Tryz.func9 (by decide) hρ mixed⟩,⟨Jl Jqa Tryz.func10 (by decide) hρ mixed,Jl Jp9 Tryz.func11 (by decide) hρ mixed⟩⟩⟩,⟨⟨⟨Jl Jo7 Tryz.func12 (by decide) hρ mixed,Jl Jps Tryz.func13 (by decide) hρ mixed⟩,⟨Jl JpI Tryz.func14 (by decide) hρ mixed,Jl JpK Tryz.func15 (by decide) hρ mixed⟩⟩,⟨⟨Jl Jp7 Tryz.func16 (by decide) hρ mixed,Jl Jqb Tryz.func17 (by decide) hρ mixed⟩,⟨Jl Jo8 Tryz.func18 (by decide) hρ mixed,Jl Jpp Tryz.func19 (by decide) hρ mixed⟩⟩⟩⟩,⟨⟨⟨⟨Jl Jph Tryz.func20 (by decide) hρ mixed,Jl Jpt Tryz.func21 (by decide) hρ mixed⟩,⟨Jl JpG Tryz.func22 (by decide) hρ mixed,Jl JpJ Tryz.func23 (by decide) hρ mixed⟩⟩,⟨⟨Jl JpL Tryz.func24 (by decide) hρ mixed,Jl JpQ Tryz.func25 (by decide) hρ mixed⟩,⟨Jl JpR Tryz.func26 (by decide) hρ mixed,Jl JpS Tryz.func27 (by decide) hρ mixed⟩⟩⟩,⟨⟨⟨Jl JpT Tryz.func28 (by decide) hρ mixed,Jl JpZ Tryz.func29 (by decide) hρ mixed⟩,⟨Jl JpX Tryz.func30 (by decide) hρ mixed,Jl Jp0 Tryz.func31 (by decide) hρ mixed⟩⟩,⟨⟨Jl Jp1 Tryz.func32 (by decide) hρ mixed,Jl Jp5 Tryz.func33 (by decide) hρ mixed⟩,⟨Jl Jp8 Tryz.func34 (by decide) hρ mixed,Jl Jqc Tryz.func35 (by decide) hρ mixed⟩⟩⟩⟩⟩,⟨⟨⟨⟨⟨Jl Jqk Tryz.func36 (by decide) hρ mixed,Jl Jqt Tryz.func37 (by decide) hρ mixed⟩,⟨Jl Jo9 Tryz.func38 (by decide) hρ mixed,Jl Jpb Tryz.func39 (by decide) hρ mixed⟩⟩,⟨⟨Jl Jpc Tryz.func40 (by decide) hρ mixed,Jl Jpf Tryz.func41 (by decide) hρ mixed⟩,⟨Jl Jpj Tryz.func42 (by decide) hρ mixed,Jl Jpl Tryz.func43 (by decide) hρ mixed⟩⟩⟩,⟨⟨⟨Jl Jpn Tryz.func44 (by decide) hρ mixed,Jl Jpo Tryz.func45 (by decide) hρ mixed⟩,⟨Jl Jpq Tryz.func46 (by decide) hρ mixed,Jl Jpu Tryz.func47 (by decide) hρ mixed⟩⟩,⟨⟨Jl Jpx Tryz.func48 (by decide) hρ mixed,Jl Jpy Tryz.func49 (by decide) hρ mixed⟩,⟨Jl JpA Tryz.func50 (by decide) hρ mixed,Jl JpB Tryz.func51 (by decide) hρ mixed⟩⟩⟩⟩,⟨⟨⟨⟨Jl JpD Tryz.func52 (by decide) hρ mixed,Jl JpE Tryz.func53 (by decide) hρ mixed⟩,⟨Jl JpH Tryz.func54 (by decide) hρ mixed,Jl JpM Tryz.func55 (by decide) hρ mixed⟩⟩,⟨⟨Jl JpN Tryz.func56 (by decide) hρ mixed,Jl JpU Tryz.func57 (by decide) hρ mixed⟩,⟨Jl JpY Tryz.func58 (by decide) hρ mixed,Jl Jp2 Tryz.func59 (by decide) hρ mixed⟩⟩⟩,⟨⟨⟨Jl Jp3 Tryz.func60 (by decide) hρ mixed,Jl Jp4 Tryz.func61 (by decide) hρ mixed⟩,⟨Jl Jp6 Tryz.func62 (by decide) hρ mixed,Jl Jqd Tryz.func63 (by decide) hρ mixed⟩⟩,⟨⟨Jl Jqe Tryz.func64 (by decide) hρ mixed,Jl Jql Tryz.func65 (by decide) hρ mixed⟩,⟨Jl Jqm Tryz.func67 (by decide) hρ mixed,⟨Jl Jqp Tryz.func68 (by decide) hρ mixed,Jl Jqq Tryz.func69 (by decide) hρ mixed⟩⟩⟩⟩⟩⟩⟩,⟨⟨⟨⟨⟨⟨Jl Jqr Tryz.func70 (by decide) hρ mixed,Jl Jqs Tryz.func71 (by decide) hρ mixed⟩,⟨Jl Jpa Tryz.func72 (by decide) hρ mixed,JeZ Tryz.func73 (by kernel_rfl) (by decide) hm fun s sub m w hs hm=>Tryz.strings_Contains s sub m w hs hm⟩⟩,⟨⟨Jl Jpd Tryz.func74 (by decide) hρ mixed,Jl Jpe Tryz.func75 (by decide) hρ mixed⟩,⟨Jl Jpg Tryz.func76 (by decide) hρ mixed,Jl Jpi Tryz.func77 (by decide) hρ mixed⟩⟩⟩,⟨⟨⟨Jl Jpk Tryz.func78 (by decide) hρ mixed,Jl Jpm Tryz.func79 (by decide) hρ mixed⟩,⟨Jl Jpr Tryz.func80 (by decide) hρ mixed,Jl Jpv Tryz.func81 (by decide) hρ mixed⟩⟩,⟨⟨Jl Jpw Tryz.func82 (by decide) hρ mixed,Jl Jpz Tryz.func83 (by decide) hρ mixed⟩,⟨Jl JpC Tryz.func84 (by decide) hρ mixed,Jl JpF Tryz.func85 (by decide) hρ mixed⟩⟩⟩⟩,⟨⟨⟨⟨Jl JpO Tryz.func86 (by decide) hρ mixed,Jl JpP Tryz.func87 (by decide) hρ mixed⟩,⟨Jl JpV Tryz.func88 (by decide) hρ mixed,Jl JpW Tryz.func89 (by decide) hρ mixed⟩⟩,⟨⟨Jl Jqg Tryz.func90 (by decide) hρ mixed,Jl Jqf Tryz.func91 (by decide) hρ mixed⟩,⟨Jl Jqj Tryz.func92 (by decide) hρ mixed,Jl Jqh Tryz.func93 (by decide) hρ mixed⟩⟩⟩,⟨⟨⟨Jl Jqi Tryz.func94 (by decide) hρ mixed,Jl Jqn Tryz.func98 (by decide) hρ mixed⟩,⟨Jl Jqo Tryz.func99 (by decide) hρ mixed,Jl JnF Tryz.func100 (by decide) hρ mixed⟩⟩,⟨⟨Jl JnE Tryz.func101 (by decide) hρ mixed,Jl JnH Tryz.func102 (by decide) hρ mixed⟩,⟨Jl Jnu Tryz.func103 (by decide) hρ mixed,⟨Jl JnI Tryz.func104 (by decide) hρ mixed,Jl JnK Tryz.func105 (by decide) hρ mixed⟩⟩⟩⟩⟩⟩,⟨⟨⟨⟨⟨Jl Jm9 Tryz.func106 (by decide) hρ mixed,Jl Jna Tryz.func107 (by decide) hρ mixed⟩,⟨Jl Jne Tryz.func109 (by decide) hρ mixed,Jl Jnf Tryz.func110 (by decide) hρ mixed⟩⟩,⟨⟨Jl Jng Tryz.func111 (by decide) hρ mixed,Jl Jnh Tryz.func112 (by decide) hρ mixed⟩,⟨Jl Jni Tryz.func113 (by decide) hρ mixed,Jl Jnj Tryz.func114 (by decide) hρ mixed⟩⟩⟩,⟨⟨⟨Jl Jnk Tryz.func115 (by decide) hρ mixed,Jl Jnl Tryz.func116 (by decide) hρ mixed⟩,⟨Jl Jnm Tryz.func117 (by decide) hρ mixed,Jl Jnn Tryz.func118 (by decide) hρ mixed⟩⟩,⟨⟨Jl Jno Tryz.func119 (by decide) hρ mixed,Jl Jnp Tryz.func120 (by decide) hρ mixed⟩,⟨Jl Jnw Tryz.func121 (by decide) hρ mixed,JmD Tryz.func122 (by kernel_rfl) (by decide) Jgo⟩⟩⟩⟩,⟨⟨⟨⟨Jl JnC Tryz.func123 (by decide) hρ mixed,Jl JnG Tryz.func125 (by decide) hρ mixed⟩,⟨Jl JnJ Tryz.func126 (by decide) hρ mixed,Jl Jnb Tryz.func127 (by decide) hρ mixed⟩⟩,⟨⟨Jl Jnc Tryz.func128 (by decide) hρ mixed,Jl Jnd Tryz.func129 (by decide) hρ mixed⟩,⟨Jl Jnq Tryz.func131 (by decide) hρ mixed,Jl Jnr Tryz.func132 (by decide) hρ mixed⟩⟩⟩,⟨⟨⟨Jl Jnx Tryz.func133 (by decide) hρ mixed,Jl Jny Tryz.func134 (by decide) hρ mixed⟩,⟨Jl Jnz Tryz.func135 (by decide) hρ mixed,Jl JnA Tryz.func136 (by decide) hρ mixed⟩⟩,⟨⟨Jl JnD Tryz.func137 (by decide) hρ mixed,Jl Jns Tryz.func142 (by decide) hρ mixed⟩,⟨Jl JnB Tryz.func143 (by decide) hρ mixed,⟨Jl Jnt Tryz.func146 (by decide) hρ mixed,Jl Jnv Tryz.func147 (by decide) hρ mixed⟩⟩⟩⟩⟩⟩⟩⟩
end Go.Proofs.YtcgiahehkobpcaaGreat
